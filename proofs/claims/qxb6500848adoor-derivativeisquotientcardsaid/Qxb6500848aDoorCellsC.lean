/-
  The row's closed cells, one theorem each (the kernel's memory is given back between them).
-/
import Derived.Test.Qxb6500848aDoorCards
import Derived.JoinedOf
import Derived.WalkKit
import Derived.Test.Qxb6500848aDoorCellsA
import Derived.Test.Qxb6500848aDoorCellsB
namespace Go.Proofs.Qxb6500848aDoor.QuotA
open Go.ChangeShapes Go.WideShapes
theorem tt {a b : Bool} (h : a = true) (k : b = true) : (a && b) = true := by rw [h, k]; rfl
theorem joined : joinedFacts Tryd.prog 3 Tryd.f3 Rows.derivativeIsQuotientSpec Rows.derivativeIsQuotientRow = true := by
  unfold joinedFacts
  exact (tt (tt (tt (tt (tt (tt (tt (tt (tt (tt (tt (tt (tt (tt (tt (tt (tt (tt (tt (tt (tt (tt (tt (tt (tt (tt (tt (tt (tt (tt (tt jf0 jf1) jf2) jf3) jf4) jf5) jf6) jf7) jf8) jf9) jf10) jf11) jf12) jf13) jf14) jf15) jf16) jf17) jf18) jf19) jf20) jf21) jf22) jf23) jf24) jf25) jf26) jf27) (by kernel_rfl)) jf29) jf30) jf31)
theorem named3 : Tryd.prog.funcNamed Rows.derivativeIsQuotientRow.func = some 3 := by kernel_rfl
theorem byText : Rows.derivativeIsQuotientRow.wfByText (OpenSpec.ofChange Rows.derivativeIsQuotientSpec) = true := by kernel_rfl
theorem mains : Tryd.prog.mainIs = some (Rows.derivativeIsQuotientCard.stood.harness.1, Rows.derivativeIsQuotientCard.stood.harness.2.toList) := by kernel_rfl
theorem looked : false = Tryd.prog.looks [] := by kernel_rfl
theorem went : false = Rows.derivativeIsQuotientRow.goesBy Tryd.prog := by kernel_rfl
theorem wrapped : Tryd.f3.isWrapper Tryd.prog Rows.derivativeIsQuotientRow.wrapper Rows.derivativeIsQuotientRow.mainSum := by unfold Func.isWrapper; first | (rw [if_pos (by decide +kernel)]; kernel_rfl) | (rw [if_neg (by decide +kernel)]; exact ⟨rfl, rfl⟩)
theorem instanced : Tryd.f3.isInstance Tryd.prog Rows.derivativeIsQuotientRow.origin Rows.derivativeIsQuotientRow.targs := of_decide_eq_true (by kernel_rfl)
end Go.Proofs.Qxb6500848aDoor.QuotA
