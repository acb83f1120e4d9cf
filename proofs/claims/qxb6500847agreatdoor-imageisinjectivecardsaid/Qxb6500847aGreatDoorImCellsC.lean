/-
  The row's closed cells, one theorem each (the kernel's memory is given back between them).
-/
import Derived.Test.Qxb6500847aGreatDoorCards
import Derived.JoinedOf
import Derived.WalkKit
import Derived.Test.Qxb6500847aGreatDoorImCellsA
import Derived.Test.Qxb6500847aGreatDoorImCellsB
namespace Go.Proofs.Qxb6500847aGreatDoor.ImN
open Go.ChangeShapes Go.WideShapes
theorem tt {a b : Bool} (h : a = true) (k : b = true) : (a && b) = true := by rw [h, k]; rfl
theorem joined : joinedFacts Tryz.prog 5 Tryz.f5 Rows.imageIsInjectiveSpec Rows.imageIsInjectiveRow = true := by
  unfold joinedFacts
  exact (tt (tt (tt (tt (tt (tt (tt (tt (tt (tt (tt (tt (tt (tt (tt (tt (tt (tt (tt (tt (tt (tt (tt (tt (tt (tt (tt (tt (tt (tt (tt jf0 jf1) jf2) jf3) jf4) jf5) jf6) jf7) jf8) jf9) jf10) jf11) jf12) jf13) jf14) jf15) jf16) jf17) jf18) jf19) jf20) jf21) jf22) jf23) jf24) jf25) jf26) jf27) (by kernel_rfl)) jf29) jf30) jf31)
theorem namedF : Tryz.prog.funcNamed Rows.imageIsInjectiveRow.func = some 5 := by kernel_rfl
theorem byText : Rows.imageIsInjectiveRow.wfByText (OpenSpec.ofChange Rows.imageIsInjectiveSpec) = true := by kernel_rfl
theorem mains : Tryz.prog.mainIs = some (Rows.imageIsInjectiveCard.stood.harness.1, Rows.imageIsInjectiveCard.stood.harness.2.toList) := by kernel_rfl
theorem looked : true = Tryz.prog.looks [] := by kernel_rfl
theorem went : false = Rows.imageIsInjectiveRow.goesBy Tryz.prog := by kernel_rfl
theorem wrapped : Tryz.f5.isWrapper Tryz.prog Rows.imageIsInjectiveRow.wrapper Rows.imageIsInjectiveRow.mainSum := by unfold Func.isWrapper; first | (rw [if_pos (by decide +kernel)]; kernel_rfl) | (rw [if_neg (by decide +kernel)]; exact ⟨rfl, rfl⟩)
theorem instanced : Tryz.f5.isInstance Tryz.prog Rows.imageIsInjectiveRow.origin Rows.imageIsInjectiveRow.targs := of_decide_eq_true (by kernel_rfl)
end Go.Proofs.Qxb6500847aGreatDoor.ImN
