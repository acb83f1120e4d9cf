/-
  The row's closed cells, one theorem each (the kernel's memory is given back between them).
-/
import Derived.Test.Qxb6500847aGreatDoorCards
import Derived.JoinedOf
import Derived.WalkKit
namespace Go.Proofs.Qxb6500847aGreatDoor.RtN
open Go.ChangeShapes Go.WideShapes
theorem jf11 : (Rows.retypeKeepsIntervalsDisjointRow.recurses == Tryz.prog.recurses 3) = true := by kernel_rfl
theorem jf12 : (Rows.retypeKeepsIntervalsDisjointRow.named == Tryz.prog.varsNamed 3) = true := by kernel_rfl
theorem jf13 : (Rows.retypeKeepsIntervalsDisjointRow.maps == (Tryz.f3.params.toList ++ Rows.retypeKeepsIntervalsDisjointSpec.plain.varTypes Tryz.prog).any (Tryz.prog.mapsRec ·)) = true := by kernel_rfl
theorem jf14 : (Rows.retypeKeepsIntervalsDisjointRow.ifaces == (Tryz.f3.params.toList ++ Rows.retypeKeepsIntervalsDisjointSpec.plain.varTypes Tryz.prog).any (Tryz.prog.ifacesRec ·)) = true := by kernel_rfl
theorem jf15 : (Rows.retypeKeepsIntervalsDisjointRow.mapsOut == Tryz.prog.mapsAmong Tryz.f3.resultTypes.toList) = true := by kernel_rfl
theorem jf16 : (Rows.retypeKeepsIntervalsDisjointRow.loops == (Tryz.f3.params.toList ++ Rows.retypeKeepsIntervalsDisjointSpec.plain.varTypes Tryz.prog).any (Tryz.prog.loopsFrom ·)) = true := by kernel_rfl
theorem jf17 : (Rows.retypeKeepsIntervalsDisjointRow.wideKeys == (Tryz.f3.params.toList ++ Rows.retypeKeepsIntervalsDisjointSpec.plain.varTypes Tryz.prog ++ Tryz.f3.resultTypes.toList).any (Tryz.prog.wideKeysFrom ·)) = true := by kernel_rfl
theorem jf18 : Rows.retypeKeepsIntervalsDisjointSpec.vars.all (Tryz.prog.varReadable ·) = true := by kernel_rfl
theorem jf19 : Tryz.f3.resultTypes.all (fun t => Tryz.prog.readableRec t && decide (t < Tryz.prog.types.size)) = true := by kernel_rfl
theorem jf20 : (Rows.retypeKeepsIntervalsDisjointRow.ifacesOut == Tryz.f3.resultTypes.toList.any (Tryz.prog.ifacesRec ·)) = true := by kernel_rfl
theorem jf21 : (Rows.retypeKeepsIntervalsDisjointRow.loopsOut == Tryz.f3.resultTypes.toList.any (Tryz.prog.loopsFrom ·)) = true := by kernel_rfl
theorem jf22 : (Rows.retypeKeepsIntervalsDisjointRow.plainKeys == Tryz.prog.plainKeys) = true := by kernel_rfl
theorem jf23 : Rows.retypeKeepsIntervalsDisjointRow.shortTexts.isNone = true := by kernel_rfl
theorem jf24 : Tryz.prog.stopsHeard = true := by kernel_rfl
theorem jf25 : Tryz.prog.mayEnter = true := by kernel_rfl
theorem jf26 : (Rows.retypeKeepsIntervalsDisjointRow.lifted == Tryz.prog.liftsFinal) = true := by kernel_rfl
theorem jf27 : (Tryz.prog.make == some Rows.retypeKeepsIntervalsDisjointRow.make) = true := by kernel_rfl
theorem jf29 : (Rows.retypeKeepsIntervalsDisjointRow.pinned == Rows.retypeKeepsIntervalsDisjointRow.pinnedBy) = true := by kernel_rfl
theorem jf30 : (Rows.retypeKeepsIntervalsDisjointRow.veiled == (Tryz.f3.params.toList ++ Rows.retypeKeepsIntervalsDisjointSpec.plain.varTypes Tryz.prog ++ Tryz.f3.resultTypes.toList).any (Tryz.prog.veiledRec ·)) = true := by kernel_rfl
theorem jf31 : Rows.retypeKeepsIntervalsDisjointRow.veiledFits Tryz.prog Tryz.f3.params.toList (Tryz.f3.params.toList ++ Rows.retypeKeepsIntervalsDisjointSpec.plain.varTypes Tryz.prog ++ Tryz.f3.resultTypes.toList) = true := by kernel_rfl
end Go.Proofs.Qxb6500847aGreatDoor.RtN
