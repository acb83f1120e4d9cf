/-
  The row's closed cells, one theorem each (the kernel's memory is given back between them).
-/
import Derived.Test.Qxb6500848aGreatDoorCards
import Derived.JoinedOf
import Derived.WalkKit
namespace Go.Proofs.Qxb6500848aGreatDoor.RfL
open Go.ChangeShapes Go.WideShapes
theorem jf0 : Rows.refinesModelRow.wf (OpenSpec.ofChange Rows.refinesModelSpec) = true := by kernel_rfl
theorem jf1 : laidOutB Tryz.prog = true := by kernel_rfl
theorem jf2 : mapsRowed Tryz.prog = true := by kernel_rfl
theorem jf3 : Tryz.f9.params.all (Tryz.prog.readableRec ·) = true := by kernel_rfl
theorem jf4 : namedTie Tryz.prog Rows.refinesModelRow.named Rows.refinesModelSpec.vars = true := by kernel_rfl
theorem jf5 : (Rows.refinesModelRow.stops == []) = true := by kernel_rfl
theorem jf6 : (Tryz.prog.stops == []) = true := by kernel_rfl
theorem jf7 : (Rows.refinesModelRow.knobs == []) = true := by kernel_rfl
theorem jf8 : (Tryz.prog.stopKnobs == []) = true := by kernel_rfl
theorem jf9 : (Rows.refinesModelRow.inPlace == Tryz.prog.inPlace 9) = true := by kernel_rfl
theorem jf10 : (Rows.refinesModelRow.unfollowed == Tryz.prog.unfollowed 9) = true := by kernel_rfl
end Go.Proofs.Qxb6500848aGreatDoor.RfL
