/-
  The row's closed cells, one theorem each (the kernel's memory is given back between them).
-/
import Derived.Test.Qxb6500848aGreatDoorCards
import Derived.JoinedOf
import Derived.WalkKit
namespace Go.Proofs.Qxb6500848aGreatDoor.SameL
open Go.ChangeShapes Go.WideShapes
theorem jf11 : (Rows.sameMintermSameDerivativeRow.recurses == Tryz.prog.recurses 3) = true := by kernel_rfl
theorem jf12 : (Rows.sameMintermSameDerivativeRow.named == Tryz.prog.varsNamed 3) = true := by kernel_rfl
theorem jf13 : (Rows.sameMintermSameDerivativeRow.maps == (Tryz.f3.params.toList ++ Rows.sameMintermSameDerivativeSpec.plain.varTypes Tryz.prog).any (Tryz.prog.mapsRec ·)) = true := by kernel_rfl
theorem jf14 : (Rows.sameMintermSameDerivativeRow.ifaces == (Tryz.f3.params.toList ++ Rows.sameMintermSameDerivativeSpec.plain.varTypes Tryz.prog).any (Tryz.prog.ifacesRec ·)) = true := by kernel_rfl
theorem jf15 : (Rows.sameMintermSameDerivativeRow.mapsOut == Tryz.prog.mapsAmong Tryz.f3.resultTypes.toList) = true := by kernel_rfl
theorem jf16 : (Rows.sameMintermSameDerivativeRow.loops == (Tryz.f3.params.toList ++ Rows.sameMintermSameDerivativeSpec.plain.varTypes Tryz.prog).any (Tryz.prog.loopsFrom ·)) = true := by kernel_rfl
theorem jf17 : (Rows.sameMintermSameDerivativeRow.wideKeys == (Tryz.f3.params.toList ++ Rows.sameMintermSameDerivativeSpec.plain.varTypes Tryz.prog ++ Tryz.f3.resultTypes.toList).any (Tryz.prog.wideKeysFrom ·)) = true := by kernel_rfl
theorem jf18 : Rows.sameMintermSameDerivativeSpec.vars.all (Tryz.prog.varReadable ·) = true := by kernel_rfl
theorem jf19 : Tryz.f3.resultTypes.all (fun t => Tryz.prog.readableRec t && decide (t < Tryz.prog.types.size)) = true := by kernel_rfl
theorem jf20 : (Rows.sameMintermSameDerivativeRow.ifacesOut == Tryz.f3.resultTypes.toList.any (Tryz.prog.ifacesRec ·)) = true := by kernel_rfl
theorem jf21 : (Rows.sameMintermSameDerivativeRow.loopsOut == Tryz.f3.resultTypes.toList.any (Tryz.prog.loopsFrom ·)) = true := by kernel_rfl
theorem jf22 : (Rows.sameMintermSameDerivativeRow.plainKeys == Tryz.prog.plainKeys) = true := by kernel_rfl
theorem jf23 : Rows.sameMintermSameDerivativeRow.shortTexts.isNone = true := by kernel_rfl
theorem jf24 : Tryz.prog.stopsHeard = true := by kernel_rfl
theorem jf25 : Tryz.prog.mayEnter = true := by kernel_rfl
theorem jf26 : (Rows.sameMintermSameDerivativeRow.lifted == Tryz.prog.liftsFinal) = true := by kernel_rfl
theorem jf27 : (Tryz.prog.make == some Rows.sameMintermSameDerivativeRow.make) = true := by kernel_rfl
theorem jf29 : (Rows.sameMintermSameDerivativeRow.pinned == Rows.sameMintermSameDerivativeRow.pinnedBy) = true := by kernel_rfl
theorem jf30 : (Rows.sameMintermSameDerivativeRow.veiled == (Tryz.f3.params.toList ++ Rows.sameMintermSameDerivativeSpec.plain.varTypes Tryz.prog ++ Tryz.f3.resultTypes.toList).any (Tryz.prog.veiledRec ·)) = true := by kernel_rfl
theorem jf31 : Rows.sameMintermSameDerivativeRow.veiledFits Tryz.prog Tryz.f3.params.toList (Tryz.f3.params.toList ++ Rows.sameMintermSameDerivativeSpec.plain.varTypes Tryz.prog ++ Tryz.f3.resultTypes.toList) = true := by kernel_rfl
end Go.Proofs.Qxb6500848aGreatDoor.SameL
