/-
  The row's closed cells, one theorem each (the kernel's memory is given back between them).
-/
import Derived.Test.Qxb6500847aGreatDoorCards
import Derived.JoinedOf
import Derived.WalkKit
namespace Go.Proofs.Qxb6500847aGreatDoor.RcN
open Go.ChangeShapes Go.WideShapes
theorem jf11 : (Rows.refusalsChangeNothingRow.recurses == Tryz.prog.recurses 7) = true := by kernel_rfl
theorem jf12 : (Rows.refusalsChangeNothingRow.named == Tryz.prog.varsNamed 7) = true := by kernel_rfl
theorem jf13 : (Rows.refusalsChangeNothingRow.maps == (Tryz.f7.params.toList ++ Rows.refusalsChangeNothingSpec.plain.varTypes Tryz.prog).any (Tryz.prog.mapsRec ·)) = true := by kernel_rfl
theorem jf14 : (Rows.refusalsChangeNothingRow.ifaces == (Tryz.f7.params.toList ++ Rows.refusalsChangeNothingSpec.plain.varTypes Tryz.prog).any (Tryz.prog.ifacesRec ·)) = true := by kernel_rfl
theorem jf15 : (Rows.refusalsChangeNothingRow.mapsOut == Tryz.prog.mapsAmong Tryz.f7.resultTypes.toList) = true := by kernel_rfl
theorem jf16 : (Rows.refusalsChangeNothingRow.loops == (Tryz.f7.params.toList ++ Rows.refusalsChangeNothingSpec.plain.varTypes Tryz.prog).any (Tryz.prog.loopsFrom ·)) = true := by kernel_rfl
theorem jf17 : (Rows.refusalsChangeNothingRow.wideKeys == (Tryz.f7.params.toList ++ Rows.refusalsChangeNothingSpec.plain.varTypes Tryz.prog ++ Tryz.f7.resultTypes.toList).any (Tryz.prog.wideKeysFrom ·)) = true := by kernel_rfl
theorem jf18 : Rows.refusalsChangeNothingSpec.vars.all (Tryz.prog.varReadable ·) = true := by kernel_rfl
theorem jf19 : Tryz.f7.resultTypes.all (fun t => Tryz.prog.readableRec t && decide (t < Tryz.prog.types.size)) = true := by kernel_rfl
theorem jf20 : (Rows.refusalsChangeNothingRow.ifacesOut == Tryz.f7.resultTypes.toList.any (Tryz.prog.ifacesRec ·)) = true := by kernel_rfl
theorem jf21 : (Rows.refusalsChangeNothingRow.loopsOut == Tryz.f7.resultTypes.toList.any (Tryz.prog.loopsFrom ·)) = true := by kernel_rfl
theorem jf22 : (Rows.refusalsChangeNothingRow.plainKeys == Tryz.prog.plainKeys) = true := by kernel_rfl
theorem jf23 : Rows.refusalsChangeNothingRow.shortTexts.isNone = true := by kernel_rfl
theorem jf24 : Tryz.prog.stopsHeard = true := by kernel_rfl
theorem jf25 : Tryz.prog.mayEnter = true := by kernel_rfl
theorem jf26 : (Rows.refusalsChangeNothingRow.lifted == Tryz.prog.liftsFinal) = true := by kernel_rfl
theorem jf27 : (Tryz.prog.make == some Rows.refusalsChangeNothingRow.make) = true := by kernel_rfl
theorem jf29 : (Rows.refusalsChangeNothingRow.pinned == Rows.refusalsChangeNothingRow.pinnedBy) = true := by kernel_rfl
theorem jf30 : (Rows.refusalsChangeNothingRow.veiled == (Tryz.f7.params.toList ++ Rows.refusalsChangeNothingSpec.plain.varTypes Tryz.prog ++ Tryz.f7.resultTypes.toList).any (Tryz.prog.veiledRec ·)) = true := by kernel_rfl
theorem jf31 : Rows.refusalsChangeNothingRow.veiledFits Tryz.prog Tryz.f7.params.toList (Tryz.f7.params.toList ++ Rows.refusalsChangeNothingSpec.plain.varTypes Tryz.prog ++ Tryz.f7.resultTypes.toList) = true := by kernel_rfl
end Go.Proofs.Qxb6500847aGreatDoor.RcN
