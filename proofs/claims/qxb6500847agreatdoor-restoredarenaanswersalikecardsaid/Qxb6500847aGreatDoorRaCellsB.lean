/-
  The row's closed cells, one theorem each (the kernel's memory is given back between them).
-/
import Derived.Test.Qxb6500847aGreatDoorCards
import Derived.JoinedOf
import Derived.WalkKit
namespace Go.Proofs.Qxb6500847aGreatDoor.RaN
open Go.ChangeShapes Go.WideShapes
theorem jf11 : (Rows.restoredArenaAnswersAlikeRow.recurses == Tryz.prog.recurses 6) = true := by kernel_rfl
theorem jf12 : (Rows.restoredArenaAnswersAlikeRow.named == Tryz.prog.varsNamed 6) = true := by kernel_rfl
theorem jf13 : (Rows.restoredArenaAnswersAlikeRow.maps == (Tryz.f6.params.toList ++ Rows.restoredArenaAnswersAlikeSpec.plain.varTypes Tryz.prog).any (Tryz.prog.mapsRec ·)) = true := by kernel_rfl
theorem jf14 : (Rows.restoredArenaAnswersAlikeRow.ifaces == (Tryz.f6.params.toList ++ Rows.restoredArenaAnswersAlikeSpec.plain.varTypes Tryz.prog).any (Tryz.prog.ifacesRec ·)) = true := by kernel_rfl
theorem jf15 : (Rows.restoredArenaAnswersAlikeRow.mapsOut == Tryz.prog.mapsAmong Tryz.f6.resultTypes.toList) = true := by kernel_rfl
theorem jf16 : (Rows.restoredArenaAnswersAlikeRow.loops == (Tryz.f6.params.toList ++ Rows.restoredArenaAnswersAlikeSpec.plain.varTypes Tryz.prog).any (Tryz.prog.loopsFrom ·)) = true := by kernel_rfl
theorem jf17 : (Rows.restoredArenaAnswersAlikeRow.wideKeys == (Tryz.f6.params.toList ++ Rows.restoredArenaAnswersAlikeSpec.plain.varTypes Tryz.prog ++ Tryz.f6.resultTypes.toList).any (Tryz.prog.wideKeysFrom ·)) = true := by kernel_rfl
theorem jf18 : Rows.restoredArenaAnswersAlikeSpec.vars.all (Tryz.prog.varReadable ·) = true := by kernel_rfl
theorem jf19 : Tryz.f6.resultTypes.all (fun t => Tryz.prog.readableRec t && decide (t < Tryz.prog.types.size)) = true := by kernel_rfl
theorem jf20 : (Rows.restoredArenaAnswersAlikeRow.ifacesOut == Tryz.f6.resultTypes.toList.any (Tryz.prog.ifacesRec ·)) = true := by kernel_rfl
theorem jf21 : (Rows.restoredArenaAnswersAlikeRow.loopsOut == Tryz.f6.resultTypes.toList.any (Tryz.prog.loopsFrom ·)) = true := by kernel_rfl
theorem jf22 : (Rows.restoredArenaAnswersAlikeRow.plainKeys == Tryz.prog.plainKeys) = true := by kernel_rfl
theorem jf23 : Rows.restoredArenaAnswersAlikeRow.shortTexts.isNone = true := by kernel_rfl
theorem jf24 : Tryz.prog.stopsHeard = true := by kernel_rfl
theorem jf25 : Tryz.prog.mayEnter = true := by kernel_rfl
theorem jf26 : (Rows.restoredArenaAnswersAlikeRow.lifted == Tryz.prog.liftsFinal) = true := by kernel_rfl
theorem jf27 : (Tryz.prog.make == some Rows.restoredArenaAnswersAlikeRow.make) = true := by kernel_rfl
theorem jf29 : (Rows.restoredArenaAnswersAlikeRow.pinned == Rows.restoredArenaAnswersAlikeRow.pinnedBy) = true := by kernel_rfl
theorem jf30 : (Rows.restoredArenaAnswersAlikeRow.veiled == (Tryz.f6.params.toList ++ Rows.restoredArenaAnswersAlikeSpec.plain.varTypes Tryz.prog ++ Tryz.f6.resultTypes.toList).any (Tryz.prog.veiledRec ·)) = true := by kernel_rfl
theorem jf31 : Rows.restoredArenaAnswersAlikeRow.veiledFits Tryz.prog Tryz.f6.params.toList (Tryz.f6.params.toList ++ Rows.restoredArenaAnswersAlikeSpec.plain.varTypes Tryz.prog ++ Tryz.f6.resultTypes.toList) = true := by kernel_rfl
end Go.Proofs.Qxb6500847aGreatDoor.RaN
