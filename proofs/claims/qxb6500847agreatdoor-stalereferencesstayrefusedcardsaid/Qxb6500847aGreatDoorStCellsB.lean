/-
  The row's closed cells, one theorem each (the kernel's memory is given back between them).
-/
import Derived.Test.Qxb6500847aGreatDoorCards
import Derived.JoinedOf
import Derived.WalkKit
namespace Go.Proofs.Qxb6500847aGreatDoor.StN
open Go.ChangeShapes Go.WideShapes
theorem jf11 : (Rows.staleReferencesStayRefusedRow.recurses == Tryz.prog.recurses 4) = true := by kernel_rfl
theorem jf12 : (Rows.staleReferencesStayRefusedRow.named == Tryz.prog.varsNamed 4) = true := by kernel_rfl
theorem jf13 : (Rows.staleReferencesStayRefusedRow.maps == (Tryz.f4.params.toList ++ Rows.staleReferencesStayRefusedSpec.plain.varTypes Tryz.prog).any (Tryz.prog.mapsRec ·)) = true := by kernel_rfl
theorem jf14 : (Rows.staleReferencesStayRefusedRow.ifaces == (Tryz.f4.params.toList ++ Rows.staleReferencesStayRefusedSpec.plain.varTypes Tryz.prog).any (Tryz.prog.ifacesRec ·)) = true := by kernel_rfl
theorem jf15 : (Rows.staleReferencesStayRefusedRow.mapsOut == Tryz.prog.mapsAmong Tryz.f4.resultTypes.toList) = true := by kernel_rfl
theorem jf16 : (Rows.staleReferencesStayRefusedRow.loops == (Tryz.f4.params.toList ++ Rows.staleReferencesStayRefusedSpec.plain.varTypes Tryz.prog).any (Tryz.prog.loopsFrom ·)) = true := by kernel_rfl
theorem jf17 : (Rows.staleReferencesStayRefusedRow.wideKeys == (Tryz.f4.params.toList ++ Rows.staleReferencesStayRefusedSpec.plain.varTypes Tryz.prog ++ Tryz.f4.resultTypes.toList).any (Tryz.prog.wideKeysFrom ·)) = true := by kernel_rfl
theorem jf18 : Rows.staleReferencesStayRefusedSpec.vars.all (Tryz.prog.varReadable ·) = true := by kernel_rfl
theorem jf19 : Tryz.f4.resultTypes.all (fun t => Tryz.prog.readableRec t && decide (t < Tryz.prog.types.size)) = true := by kernel_rfl
theorem jf20 : (Rows.staleReferencesStayRefusedRow.ifacesOut == Tryz.f4.resultTypes.toList.any (Tryz.prog.ifacesRec ·)) = true := by kernel_rfl
theorem jf21 : (Rows.staleReferencesStayRefusedRow.loopsOut == Tryz.f4.resultTypes.toList.any (Tryz.prog.loopsFrom ·)) = true := by kernel_rfl
theorem jf22 : (Rows.staleReferencesStayRefusedRow.plainKeys == Tryz.prog.plainKeys) = true := by kernel_rfl
theorem jf23 : Rows.staleReferencesStayRefusedRow.shortTexts.isNone = true := by kernel_rfl
theorem jf24 : Tryz.prog.stopsHeard = true := by kernel_rfl
theorem jf25 : Tryz.prog.mayEnter = true := by kernel_rfl
theorem jf26 : (Rows.staleReferencesStayRefusedRow.lifted == Tryz.prog.liftsFinal) = true := by kernel_rfl
theorem jf27 : (Tryz.prog.make == some Rows.staleReferencesStayRefusedRow.make) = true := by kernel_rfl
theorem jf29 : (Rows.staleReferencesStayRefusedRow.pinned == Rows.staleReferencesStayRefusedRow.pinnedBy) = true := by kernel_rfl
theorem jf30 : (Rows.staleReferencesStayRefusedRow.veiled == (Tryz.f4.params.toList ++ Rows.staleReferencesStayRefusedSpec.plain.varTypes Tryz.prog ++ Tryz.f4.resultTypes.toList).any (Tryz.prog.veiledRec ·)) = true := by kernel_rfl
theorem jf31 : Rows.staleReferencesStayRefusedRow.veiledFits Tryz.prog Tryz.f4.params.toList (Tryz.f4.params.toList ++ Rows.staleReferencesStayRefusedSpec.plain.varTypes Tryz.prog ++ Tryz.f4.resultTypes.toList) = true := by kernel_rfl
end Go.Proofs.Qxb6500847aGreatDoor.StN
