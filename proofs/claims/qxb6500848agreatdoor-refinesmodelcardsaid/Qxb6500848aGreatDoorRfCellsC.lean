/-
  The row's closed cells, one theorem each (the kernel's memory is given back between them).
-/
import Derived.Test.Qxb6500848aGreatDoorCards
import Derived.JoinedOf
import Derived.WalkKit
import Derived.Test.Qxb6500848aGreatDoorRfCellsA
import Derived.Test.Qxb6500848aGreatDoorRfCellsB
namespace Go.Proofs.Qxb6500848aGreatDoor.RfL
open Go.ChangeShapes Go.WideShapes
theorem tt {a b : Bool} (h : a = true) (k : b = true) : (a && b) = true := by rw [h, k]; rfl
theorem joined : joinedFacts Tryz.prog 9 Tryz.f9 Rows.refinesModelSpec Rows.refinesModelRow = true := by
  unfold joinedFacts
  exact (tt (tt (tt (tt (tt (tt (tt (tt (tt (tt (tt (tt (tt (tt (tt (tt (tt (tt (tt (tt (tt (tt (tt (tt (tt (tt (tt (tt (tt (tt (tt jf0 jf1) jf2) jf3) jf4) jf5) jf6) jf7) jf8) jf9) jf10) jf11) jf12) jf13) jf14) jf15) jf16) jf17) jf18) jf19) jf20) jf21) jf22) jf23) jf24) jf25) jf26) jf27) (by kernel_rfl)) jf29) jf30) jf31)
theorem named9 : Tryz.prog.funcNamed Rows.refinesModelRow.func = some 9 := by kernel_rfl
theorem byText : Rows.refinesModelRow.wfByText (OpenSpec.ofChange Rows.refinesModelSpec) = true := by kernel_rfl
theorem mains : Tryz.prog.mainIs = some (Rows.refinesModelCard.stood.harness.1, Rows.refinesModelCard.stood.harness.2.toList) := by kernel_rfl
theorem looked : true = Tryz.prog.looks [] := by kernel_rfl
theorem went : false = Rows.refinesModelRow.goesBy Tryz.prog := by kernel_rfl
theorem wrapped : Tryz.f9.isWrapper Tryz.prog Rows.refinesModelRow.wrapper Rows.refinesModelRow.mainSum := by unfold Func.isWrapper; first | (rw [if_pos (by decide +kernel)]; kernel_rfl) | (rw [if_neg (by decide +kernel)]; exact ⟨rfl, rfl⟩)
theorem instanced : Tryz.f9.isInstance Tryz.prog Rows.refinesModelRow.origin Rows.refinesModelRow.targs := of_decide_eq_true (by kernel_rfl)
end Go.Proofs.Qxb6500848aGreatDoor.RfL
