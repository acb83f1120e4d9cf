/-
  The row's closed cells, one theorem each (the kernel's memory is given back between them).
-/
import Derived.Test.Qxb6500847aGreatDoorCards
import Derived.JoinedOf
import Derived.WalkKit
namespace Go.Proofs.Qxb6500847aGreatDoor.FloorA
open Go.ChangeShapes Go.WideShapes
theorem jf11 : (Rows.fullListingNeedsTrueFloorRow.recurses == Tryz.prog.recurses 9) = true := by kernel_rfl
theorem jf12 : (Rows.fullListingNeedsTrueFloorRow.named == Tryz.prog.varsNamed 9) = true := by kernel_rfl
theorem jf13 : (Rows.fullListingNeedsTrueFloorRow.maps == (Tryz.f9.params.toList ++ Rows.fullListingNeedsTrueFloorSpec.plain.varTypes Tryz.prog).any (Tryz.prog.mapsRec ·)) = true := by kernel_rfl
theorem jf14 : (Rows.fullListingNeedsTrueFloorRow.ifaces == (Tryz.f9.params.toList ++ Rows.fullListingNeedsTrueFloorSpec.plain.varTypes Tryz.prog).any (Tryz.prog.ifacesRec ·)) = true := by kernel_rfl
theorem jf15 : (Rows.fullListingNeedsTrueFloorRow.mapsOut == Tryz.prog.mapsAmong Tryz.f9.resultTypes.toList) = true := by kernel_rfl
theorem jf16 : (Rows.fullListingNeedsTrueFloorRow.loops == (Tryz.f9.params.toList ++ Rows.fullListingNeedsTrueFloorSpec.plain.varTypes Tryz.prog).any (Tryz.prog.loopsFrom ·)) = true := by kernel_rfl
theorem jf17 : (Rows.fullListingNeedsTrueFloorRow.wideKeys == (Tryz.f9.params.toList ++ Rows.fullListingNeedsTrueFloorSpec.plain.varTypes Tryz.prog ++ Tryz.f9.resultTypes.toList).any (Tryz.prog.wideKeysFrom ·)) = true := by kernel_rfl
theorem jf18 : Rows.fullListingNeedsTrueFloorSpec.vars.all (Tryz.prog.varReadable ·) = true := by kernel_rfl
theorem jf19 : Tryz.f9.resultTypes.all (fun t => Tryz.prog.readableRec t && decide (t < Tryz.prog.types.size)) = true := by kernel_rfl
theorem jf20 : (Rows.fullListingNeedsTrueFloorRow.ifacesOut == Tryz.f9.resultTypes.toList.any (Tryz.prog.ifacesRec ·)) = true := by kernel_rfl
theorem jf21 : (Rows.fullListingNeedsTrueFloorRow.loopsOut == Tryz.f9.resultTypes.toList.any (Tryz.prog.loopsFrom ·)) = true := by kernel_rfl
theorem jf22 : (Rows.fullListingNeedsTrueFloorRow.plainKeys == Tryz.prog.plainKeys) = true := by kernel_rfl
theorem jf23 : Rows.fullListingNeedsTrueFloorRow.shortTexts.isNone = true := by kernel_rfl
theorem jf24 : Tryz.prog.stopsHeard = true := by kernel_rfl
theorem jf25 : Tryz.prog.mayEnter = true := by kernel_rfl
theorem jf26 : (Rows.fullListingNeedsTrueFloorRow.lifted == Tryz.prog.liftsFinal) = true := by kernel_rfl
theorem jf27 : (Tryz.prog.make == some Rows.fullListingNeedsTrueFloorRow.make) = true := by kernel_rfl
theorem jf29 : (Rows.fullListingNeedsTrueFloorRow.pinned == Rows.fullListingNeedsTrueFloorRow.pinnedBy) = true := by kernel_rfl
theorem jf30 : (Rows.fullListingNeedsTrueFloorRow.veiled == (Tryz.f9.params.toList ++ Rows.fullListingNeedsTrueFloorSpec.plain.varTypes Tryz.prog ++ Tryz.f9.resultTypes.toList).any (Tryz.prog.veiledRec ·)) = true := by kernel_rfl
theorem jf31 : Rows.fullListingNeedsTrueFloorRow.veiledFits Tryz.prog Tryz.f9.params.toList (Tryz.f9.params.toList ++ Rows.fullListingNeedsTrueFloorSpec.plain.varTypes Tryz.prog ++ Tryz.f9.resultTypes.toList) = true := by kernel_rfl
end Go.Proofs.Qxb6500847aGreatDoor.FloorA
