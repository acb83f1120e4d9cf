/-
  The row's closed cells, one theorem each (the kernel's memory is given back between them).
-/
import Derived.Test.Qxb6500848aGreatDoorCards
import Derived.JoinedOf
import Derived.WalkKit
namespace Go.Proofs.Qxb6500848aGreatDoor.FdL
open Go.ChangeShapes Go.WideShapes
theorem jf11 : (Rows.finitelyManyDerivativesRow.recurses == Tryz.prog.recurses 5) = true := by kernel_rfl
theorem jf12 : (Rows.finitelyManyDerivativesRow.named == Tryz.prog.varsNamed 5) = true := by kernel_rfl
theorem jf13 : (Rows.finitelyManyDerivativesRow.maps == (Tryz.f5.params.toList ++ Rows.finitelyManyDerivativesSpec.plain.varTypes Tryz.prog).any (Tryz.prog.mapsRec ·)) = true := by kernel_rfl
theorem jf14 : (Rows.finitelyManyDerivativesRow.ifaces == (Tryz.f5.params.toList ++ Rows.finitelyManyDerivativesSpec.plain.varTypes Tryz.prog).any (Tryz.prog.ifacesRec ·)) = true := by kernel_rfl
theorem jf15 : (Rows.finitelyManyDerivativesRow.mapsOut == Tryz.prog.mapsAmong Tryz.f5.resultTypes.toList) = true := by kernel_rfl
theorem jf16 : (Rows.finitelyManyDerivativesRow.loops == (Tryz.f5.params.toList ++ Rows.finitelyManyDerivativesSpec.plain.varTypes Tryz.prog).any (Tryz.prog.loopsFrom ·)) = true := by kernel_rfl
theorem jf17 : (Rows.finitelyManyDerivativesRow.wideKeys == (Tryz.f5.params.toList ++ Rows.finitelyManyDerivativesSpec.plain.varTypes Tryz.prog ++ Tryz.f5.resultTypes.toList).any (Tryz.prog.wideKeysFrom ·)) = true := by kernel_rfl
theorem jf18 : Rows.finitelyManyDerivativesSpec.vars.all (Tryz.prog.varReadable ·) = true := by kernel_rfl
theorem jf19 : Tryz.f5.resultTypes.all (fun t => Tryz.prog.readableRec t && decide (t < Tryz.prog.types.size)) = true := by kernel_rfl
theorem jf20 : (Rows.finitelyManyDerivativesRow.ifacesOut == Tryz.f5.resultTypes.toList.any (Tryz.prog.ifacesRec ·)) = true := by kernel_rfl
theorem jf21 : (Rows.finitelyManyDerivativesRow.loopsOut == Tryz.f5.resultTypes.toList.any (Tryz.prog.loopsFrom ·)) = true := by kernel_rfl
theorem jf22 : (Rows.finitelyManyDerivativesRow.plainKeys == Tryz.prog.plainKeys) = true := by kernel_rfl
theorem jf23 : Rows.finitelyManyDerivativesRow.shortTexts.isNone = true := by kernel_rfl
theorem jf24 : Tryz.prog.stopsHeard = true := by kernel_rfl
theorem jf25 : Tryz.prog.mayEnter = true := by kernel_rfl
theorem jf26 : (Rows.finitelyManyDerivativesRow.lifted == Tryz.prog.liftsFinal) = true := by kernel_rfl
theorem jf27 : (Tryz.prog.make == some Rows.finitelyManyDerivativesRow.make) = true := by kernel_rfl
theorem jf29 : (Rows.finitelyManyDerivativesRow.pinned == Rows.finitelyManyDerivativesRow.pinnedBy) = true := by kernel_rfl
theorem jf30 : (Rows.finitelyManyDerivativesRow.veiled == (Tryz.f5.params.toList ++ Rows.finitelyManyDerivativesSpec.plain.varTypes Tryz.prog ++ Tryz.f5.resultTypes.toList).any (Tryz.prog.veiledRec ·)) = true := by kernel_rfl
theorem jf31 : Rows.finitelyManyDerivativesRow.veiledFits Tryz.prog Tryz.f5.params.toList (Tryz.f5.params.toList ++ Rows.finitelyManyDerivativesSpec.plain.varTypes Tryz.prog ++ Tryz.f5.resultTypes.toList) = true := by kernel_rfl
end Go.Proofs.Qxb6500848aGreatDoor.FdL
