/-
  The row's closed cells, one theorem each (the kernel's memory is given back between them).
-/
import Derived.Test.Qxb6500848aGreatDoorCards
import Derived.JoinedOf
import Derived.WalkKit
namespace Go.Proofs.Qxb6500848aGreatDoor.RfL
open Go.ChangeShapes Go.WideShapes
theorem jf11 : (Rows.refinesModelRow.recurses == Tryz.prog.recurses 9) = true := by kernel_rfl
theorem jf12 : (Rows.refinesModelRow.named == Tryz.prog.varsNamed 9) = true := by kernel_rfl
theorem jf13 : (Rows.refinesModelRow.maps == (Tryz.f9.params.toList ++ Rows.refinesModelSpec.plain.varTypes Tryz.prog).any (Tryz.prog.mapsRec ·)) = true := by kernel_rfl
theorem jf14 : (Rows.refinesModelRow.ifaces == (Tryz.f9.params.toList ++ Rows.refinesModelSpec.plain.varTypes Tryz.prog).any (Tryz.prog.ifacesRec ·)) = true := by kernel_rfl
theorem jf15 : (Rows.refinesModelRow.mapsOut == Tryz.prog.mapsAmong Tryz.f9.resultTypes.toList) = true := by kernel_rfl
theorem jf16 : (Rows.refinesModelRow.loops == (Tryz.f9.params.toList ++ Rows.refinesModelSpec.plain.varTypes Tryz.prog).any (Tryz.prog.loopsFrom ·)) = true := by kernel_rfl
theorem jf17 : (Rows.refinesModelRow.wideKeys == (Tryz.f9.params.toList ++ Rows.refinesModelSpec.plain.varTypes Tryz.prog ++ Tryz.f9.resultTypes.toList).any (Tryz.prog.wideKeysFrom ·)) = true := by kernel_rfl
theorem jf18 : Rows.refinesModelSpec.vars.all (Tryz.prog.varReadable ·) = true := by kernel_rfl
theorem jf19 : Tryz.f9.resultTypes.all (fun t => Tryz.prog.readableRec t && decide (t < Tryz.prog.types.size)) = true := by kernel_rfl
theorem jf20 : (Rows.refinesModelRow.ifacesOut == Tryz.f9.resultTypes.toList.any (Tryz.prog.ifacesRec ·)) = true := by kernel_rfl
theorem jf21 : (Rows.refinesModelRow.loopsOut == Tryz.f9.resultTypes.toList.any (Tryz.prog.loopsFrom ·)) = true := by kernel_rfl
theorem jf22 : (Rows.refinesModelRow.plainKeys == Tryz.prog.plainKeys) = true := by kernel_rfl
theorem jf23 : Rows.refinesModelRow.shortTexts.isNone = true := by kernel_rfl
theorem jf24 : Tryz.prog.stopsHeard = true := by kernel_rfl
theorem jf25 : Tryz.prog.mayEnter = true := by kernel_rfl
theorem jf26 : (Rows.refinesModelRow.lifted == Tryz.prog.liftsFinal) = true := by kernel_rfl
theorem jf27 : (Tryz.prog.make == some Rows.refinesModelRow.make) = true := by kernel_rfl
theorem jf29 : (Rows.refinesModelRow.pinned == Rows.refinesModelRow.pinnedBy) = true := by kernel_rfl
theorem jf30 : (Rows.refinesModelRow.veiled == (Tryz.f9.params.toList ++ Rows.refinesModelSpec.plain.varTypes Tryz.prog ++ Tryz.f9.resultTypes.toList).any (Tryz.prog.veiledRec ·)) = true := by kernel_rfl
theorem jf31 : Rows.refinesModelRow.veiledFits Tryz.prog Tryz.f9.params.toList (Tryz.f9.params.toList ++ Rows.refinesModelSpec.plain.varTypes Tryz.prog ++ Tryz.f9.resultTypes.toList) = true := by kernel_rfl
end Go.Proofs.Qxb6500848aGreatDoor.RfL
