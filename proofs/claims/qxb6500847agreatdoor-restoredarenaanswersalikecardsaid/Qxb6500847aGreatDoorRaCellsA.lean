/-
  The row's closed cells, one theorem each (the kernel's memory is given back between them).
-/
import Derived.Test.Qxb6500847aGreatDoorCards
import Derived.JoinedOf
import Derived.WalkKit
namespace Go.Proofs.Qxb6500847aGreatDoor.RaN
open Go.ChangeShapes Go.WideShapes
theorem jf0 : Rows.restoredArenaAnswersAlikeRow.wf (OpenSpec.ofChange Rows.restoredArenaAnswersAlikeSpec) = true := by kernel_rfl
theorem jf1 : laidOutB Tryz.prog = true := by kernel_rfl
theorem jf2 : mapsRowed Tryz.prog = true := by kernel_rfl
theorem jf3 : Tryz.f6.params.all (Tryz.prog.readableRec ·) = true := by kernel_rfl
theorem jf4 : namedTie Tryz.prog Rows.restoredArenaAnswersAlikeRow.named Rows.restoredArenaAnswersAlikeSpec.vars = true := by kernel_rfl
theorem jf5 : (Rows.restoredArenaAnswersAlikeRow.stops == []) = true := by kernel_rfl
theorem jf6 : (Tryz.prog.stops == []) = true := by kernel_rfl
theorem jf7 : (Rows.restoredArenaAnswersAlikeRow.knobs == []) = true := by kernel_rfl
theorem jf8 : (Tryz.prog.stopKnobs == []) = true := by kernel_rfl
theorem jf9 : (Rows.restoredArenaAnswersAlikeRow.inPlace == Tryz.prog.inPlace 6) = true := by kernel_rfl
theorem jf10 : (Rows.restoredArenaAnswersAlikeRow.unfollowed == Tryz.prog.unfollowed 6) = true := by kernel_rfl
end Go.Proofs.Qxb6500847aGreatDoor.RaN
