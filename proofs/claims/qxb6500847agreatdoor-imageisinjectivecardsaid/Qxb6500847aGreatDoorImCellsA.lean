/-
  The row's closed cells, one theorem each (the kernel's memory is given back between them).
-/
import Derived.Test.Qxb6500847aGreatDoorCards
import Derived.JoinedOf
import Derived.WalkKit
namespace Go.Proofs.Qxb6500847aGreatDoor.ImN
open Go.ChangeShapes Go.WideShapes
theorem jf0 : Rows.imageIsInjectiveRow.wf (OpenSpec.ofChange Rows.imageIsInjectiveSpec) = true := by kernel_rfl
theorem jf1 : laidOutB Tryz.prog = true := by kernel_rfl
theorem jf2 : mapsRowed Tryz.prog = true := by kernel_rfl
theorem jf3 : Tryz.f5.params.all (Tryz.prog.readableRec ·) = true := by kernel_rfl
theorem jf4 : namedTie Tryz.prog Rows.imageIsInjectiveRow.named Rows.imageIsInjectiveSpec.vars = true := by kernel_rfl
theorem jf5 : (Rows.imageIsInjectiveRow.stops == []) = true := by kernel_rfl
theorem jf6 : (Tryz.prog.stops == []) = true := by kernel_rfl
theorem jf7 : (Rows.imageIsInjectiveRow.knobs == []) = true := by kernel_rfl
theorem jf8 : (Tryz.prog.stopKnobs == []) = true := by kernel_rfl
theorem jf9 : (Rows.imageIsInjectiveRow.inPlace == Tryz.prog.inPlace 5) = true := by kernel_rfl
theorem jf10 : (Rows.imageIsInjectiveRow.unfollowed == Tryz.prog.unfollowed 5) = true := by kernel_rfl
end Go.Proofs.Qxb6500847aGreatDoor.ImN
