/-
  The row's closed cells, one theorem each (the kernel's memory is given back between them).
-/
import Derived.Test.Qxb6500848aDoorCards
import Derived.JoinedOf
import Derived.WalkKit
namespace Go.Proofs.Qxb6500848aDoor.QuotA
open Go.ChangeShapes Go.WideShapes
theorem jf11 : (Rows.derivativeIsQuotientRow.recurses == Tryd.prog.recurses 3) = true := by kernel_rfl
theorem jf12 : (Rows.derivativeIsQuotientRow.named == Tryd.prog.varsNamed 3) = true := by kernel_rfl
theorem jf13 : (Rows.derivativeIsQuotientRow.maps == (Tryd.f3.params.toList ++ Rows.derivativeIsQuotientSpec.plain.varTypes Tryd.prog).any (Tryd.prog.mapsRec ·)) = true := by kernel_rfl
theorem jf14 : (Rows.derivativeIsQuotientRow.ifaces == (Tryd.f3.params.toList ++ Rows.derivativeIsQuotientSpec.plain.varTypes Tryd.prog).any (Tryd.prog.ifacesRec ·)) = true := by kernel_rfl
theorem jf15 : (Rows.derivativeIsQuotientRow.mapsOut == Tryd.prog.mapsAmong Tryd.f3.resultTypes.toList) = true := by kernel_rfl
theorem jf16 : (Rows.derivativeIsQuotientRow.loops == (Tryd.f3.params.toList ++ Rows.derivativeIsQuotientSpec.plain.varTypes Tryd.prog).any (Tryd.prog.loopsFrom ·)) = true := by kernel_rfl
theorem jf17 : (Rows.derivativeIsQuotientRow.wideKeys == (Tryd.f3.params.toList ++ Rows.derivativeIsQuotientSpec.plain.varTypes Tryd.prog ++ Tryd.f3.resultTypes.toList).any (Tryd.prog.wideKeysFrom ·)) = true := by kernel_rfl
theorem jf18 : Rows.derivativeIsQuotientSpec.vars.all (Tryd.prog.varReadable ·) = true := by kernel_rfl
theorem jf19 : Tryd.f3.resultTypes.all (fun t => Tryd.prog.readableRec t && decide (t < Tryd.prog.types.size)) = true := by kernel_rfl
theorem jf20 : (Rows.derivativeIsQuotientRow.ifacesOut == Tryd.f3.resultTypes.toList.any (Tryd.prog.ifacesRec ·)) = true := by kernel_rfl
theorem jf21 : (Rows.derivativeIsQuotientRow.loopsOut == Tryd.f3.resultTypes.toList.any (Tryd.prog.loopsFrom ·)) = true := by kernel_rfl
theorem jf22 : (Rows.derivativeIsQuotientRow.plainKeys == Tryd.prog.plainKeys) = true := by kernel_rfl
theorem jf23 : Rows.derivativeIsQuotientRow.shortTexts.isNone = true := by kernel_rfl
theorem jf24 : Tryd.prog.stopsHeard = true := by kernel_rfl
theorem jf25 : Tryd.prog.mayEnter = true := by kernel_rfl
theorem jf26 : (Rows.derivativeIsQuotientRow.lifted == Tryd.prog.liftsFinal) = true := by kernel_rfl
theorem jf27 : (Tryd.prog.make == some Rows.derivativeIsQuotientRow.make) = true := by kernel_rfl
theorem jf29 : (Rows.derivativeIsQuotientRow.pinned == Rows.derivativeIsQuotientRow.pinnedBy) = true := by kernel_rfl
theorem jf30 : (Rows.derivativeIsQuotientRow.veiled == (Tryd.f3.params.toList ++ Rows.derivativeIsQuotientSpec.plain.varTypes Tryd.prog ++ Tryd.f3.resultTypes.toList).any (Tryd.prog.veiledRec ·)) = true := by kernel_rfl
theorem jf31 : Rows.derivativeIsQuotientRow.veiledFits Tryd.prog Tryd.f3.params.toList (Tryd.f3.params.toList ++ Rows.derivativeIsQuotientSpec.plain.varTypes Tryd.prog ++ Tryd.f3.resultTypes.toList) = true := by kernel_rfl
end Go.Proofs.Qxb6500848aDoor.QuotA
