/-
  The row's closed cells, one theorem each (the kernel's memory is given back between them).
-/
import Derived.Test.Qxb6500847aGreatDoorCards
import Derived.JoinedOf
import Derived.WalkKit
namespace Go.Proofs.Qxb6500847aGreatDoor.DiN
open Go.ChangeShapes Go.WideShapes
theorem jf11 : (Rows.diffListsEveryDifferenceRow.recurses == Tryz.prog.recurses 8) = true := by kernel_rfl
theorem jf12 : (Rows.diffListsEveryDifferenceRow.named == Tryz.prog.varsNamed 8) = true := by kernel_rfl
theorem jf13 : (Rows.diffListsEveryDifferenceRow.maps == (Tryz.f8.params.toList ++ Rows.diffListsEveryDifferenceSpec.plain.varTypes Tryz.prog).any (Tryz.prog.mapsRec ·)) = true := by kernel_rfl
theorem jf14 : (Rows.diffListsEveryDifferenceRow.ifaces == (Tryz.f8.params.toList ++ Rows.diffListsEveryDifferenceSpec.plain.varTypes Tryz.prog).any (Tryz.prog.ifacesRec ·)) = true := by kernel_rfl
theorem jf15 : (Rows.diffListsEveryDifferenceRow.mapsOut == Tryz.prog.mapsAmong Tryz.f8.resultTypes.toList) = true := by kernel_rfl
theorem jf16 : (Rows.diffListsEveryDifferenceRow.loops == (Tryz.f8.params.toList ++ Rows.diffListsEveryDifferenceSpec.plain.varTypes Tryz.prog).any (Tryz.prog.loopsFrom ·)) = true := by kernel_rfl
theorem jf17 : (Rows.diffListsEveryDifferenceRow.wideKeys == (Tryz.f8.params.toList ++ Rows.diffListsEveryDifferenceSpec.plain.varTypes Tryz.prog ++ Tryz.f8.resultTypes.toList).any (Tryz.prog.wideKeysFrom ·)) = true := by kernel_rfl
theorem jf18 : Rows.diffListsEveryDifferenceSpec.vars.all (Tryz.prog.varReadable ·) = true := by kernel_rfl
theorem jf19 : Tryz.f8.resultTypes.all (fun t => Tryz.prog.readableRec t && decide (t < Tryz.prog.types.size)) = true := by kernel_rfl
theorem jf20 : (Rows.diffListsEveryDifferenceRow.ifacesOut == Tryz.f8.resultTypes.toList.any (Tryz.prog.ifacesRec ·)) = true := by kernel_rfl
theorem jf21 : (Rows.diffListsEveryDifferenceRow.loopsOut == Tryz.f8.resultTypes.toList.any (Tryz.prog.loopsFrom ·)) = true := by kernel_rfl
theorem jf22 : (Rows.diffListsEveryDifferenceRow.plainKeys == Tryz.prog.plainKeys) = true := by kernel_rfl
theorem jf23 : Rows.diffListsEveryDifferenceRow.shortTexts.isNone = true := by kernel_rfl
theorem jf24 : Tryz.prog.stopsHeard = true := by kernel_rfl
theorem jf25 : Tryz.prog.mayEnter = true := by kernel_rfl
theorem jf26 : (Rows.diffListsEveryDifferenceRow.lifted == Tryz.prog.liftsFinal) = true := by kernel_rfl
theorem jf27 : (Tryz.prog.make == some Rows.diffListsEveryDifferenceRow.make) = true := by kernel_rfl
theorem jf29 : (Rows.diffListsEveryDifferenceRow.pinned == Rows.diffListsEveryDifferenceRow.pinnedBy) = true := by kernel_rfl
theorem jf30 : (Rows.diffListsEveryDifferenceRow.veiled == (Tryz.f8.params.toList ++ Rows.diffListsEveryDifferenceSpec.plain.varTypes Tryz.prog ++ Tryz.f8.resultTypes.toList).any (Tryz.prog.veiledRec ·)) = true := by kernel_rfl
theorem jf31 : Rows.diffListsEveryDifferenceRow.veiledFits Tryz.prog Tryz.f8.params.toList (Tryz.f8.params.toList ++ Rows.diffListsEveryDifferenceSpec.plain.varTypes Tryz.prog ++ Tryz.f8.resultTypes.toList) = true := by kernel_rfl
end Go.Proofs.Qxb6500847aGreatDoor.DiN
