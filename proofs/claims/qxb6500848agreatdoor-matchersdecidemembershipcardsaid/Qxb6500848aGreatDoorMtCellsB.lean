/-
  The row's closed cells, one theorem each (the kernel's memory is given back between them).
-/
import Derived.Test.Qxb6500848aGreatDoorCards
import Derived.JoinedOf
import Derived.WalkKit
namespace Go.Proofs.Qxb6500848aGreatDoor.MtL
open Go.ChangeShapes Go.WideShapes
theorem jf11 : (Rows.matchersDecideMembershipRow.recurses == Tryz.prog.recurses 8) = true := by kernel_rfl
theorem jf12 : (Rows.matchersDecideMembershipRow.named == Tryz.prog.varsNamed 8) = true := by kernel_rfl
theorem jf13 : (Rows.matchersDecideMembershipRow.maps == (Tryz.f8.params.toList ++ Rows.matchersDecideMembershipSpec.plain.varTypes Tryz.prog).any (Tryz.prog.mapsRec ·)) = true := by kernel_rfl
theorem jf14 : (Rows.matchersDecideMembershipRow.ifaces == (Tryz.f8.params.toList ++ Rows.matchersDecideMembershipSpec.plain.varTypes Tryz.prog).any (Tryz.prog.ifacesRec ·)) = true := by kernel_rfl
theorem jf15 : (Rows.matchersDecideMembershipRow.mapsOut == Tryz.prog.mapsAmong Tryz.f8.resultTypes.toList) = true := by kernel_rfl
theorem jf16 : (Rows.matchersDecideMembershipRow.loops == (Tryz.f8.params.toList ++ Rows.matchersDecideMembershipSpec.plain.varTypes Tryz.prog).any (Tryz.prog.loopsFrom ·)) = true := by kernel_rfl
theorem jf17 : (Rows.matchersDecideMembershipRow.wideKeys == (Tryz.f8.params.toList ++ Rows.matchersDecideMembershipSpec.plain.varTypes Tryz.prog ++ Tryz.f8.resultTypes.toList).any (Tryz.prog.wideKeysFrom ·)) = true := by kernel_rfl
theorem jf18 : Rows.matchersDecideMembershipSpec.vars.all (Tryz.prog.varReadable ·) = true := by kernel_rfl
theorem jf19 : Tryz.f8.resultTypes.all (fun t => Tryz.prog.readableRec t && decide (t < Tryz.prog.types.size)) = true := by kernel_rfl
theorem jf20 : (Rows.matchersDecideMembershipRow.ifacesOut == Tryz.f8.resultTypes.toList.any (Tryz.prog.ifacesRec ·)) = true := by kernel_rfl
theorem jf21 : (Rows.matchersDecideMembershipRow.loopsOut == Tryz.f8.resultTypes.toList.any (Tryz.prog.loopsFrom ·)) = true := by kernel_rfl
theorem jf22 : (Rows.matchersDecideMembershipRow.plainKeys == Tryz.prog.plainKeys) = true := by kernel_rfl
theorem jf23 : Rows.matchersDecideMembershipRow.shortTexts.isNone = true := by kernel_rfl
theorem jf24 : Tryz.prog.stopsHeard = true := by kernel_rfl
theorem jf25 : Tryz.prog.mayEnter = true := by kernel_rfl
theorem jf26 : (Rows.matchersDecideMembershipRow.lifted == Tryz.prog.liftsFinal) = true := by kernel_rfl
theorem jf27 : (Tryz.prog.make == some Rows.matchersDecideMembershipRow.make) = true := by kernel_rfl
theorem jf29 : (Rows.matchersDecideMembershipRow.pinned == Rows.matchersDecideMembershipRow.pinnedBy) = true := by kernel_rfl
theorem jf30 : (Rows.matchersDecideMembershipRow.veiled == (Tryz.f8.params.toList ++ Rows.matchersDecideMembershipSpec.plain.varTypes Tryz.prog ++ Tryz.f8.resultTypes.toList).any (Tryz.prog.veiledRec ·)) = true := by kernel_rfl
theorem jf31 : Rows.matchersDecideMembershipRow.veiledFits Tryz.prog Tryz.f8.params.toList (Tryz.f8.params.toList ++ Rows.matchersDecideMembershipSpec.plain.varTypes Tryz.prog ++ Tryz.f8.resultTypes.toList) = true := by kernel_rfl
end Go.Proofs.Qxb6500848aGreatDoor.MtL
