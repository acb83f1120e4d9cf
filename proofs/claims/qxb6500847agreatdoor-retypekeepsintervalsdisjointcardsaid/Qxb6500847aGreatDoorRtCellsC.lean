/-
  The row's closed cells, one theorem each (the kernel's memory is given back between them).
-/
import Derived.Test.Qxb6500847aGreatDoorCards
import Derived.JoinedOf
import Derived.WalkKit
import Derived.Test.Qxb6500847aGreatDoorRtCellsA
import Derived.Test.Qxb6500847aGreatDoorRtCellsB
namespace Go.Proofs.Qxb6500847aGreatDoor.RtN
open Go.ChangeShapes Go.WideShapes
theorem tt {a b : Bool} (h : a = true) (k : b = true) : (a && b) = true := by rw [h, k]; rfl
theorem joined : joinedFacts Tryz.prog 3 Tryz.f3 Rows.retypeKeepsIntervalsDisjointSpec Rows.retypeKeepsIntervalsDisjointRow = true := by
  unfold joinedFacts
  exact (tt (tt (tt (tt (tt (tt (tt (tt (tt (tt (tt (tt (tt (tt (tt (tt (tt (tt (tt (tt (tt (tt (tt (tt (tt (tt (tt (tt (tt (tt (tt jf0 jf1) jf2) jf3) jf4) jf5) jf6) jf7) jf8) jf9) jf10) jf11) jf12) jf13) jf14) jf15) jf16) jf17) jf18) jf19) jf20) jf21) jf22) jf23) jf24) jf25) jf26) jf27) (by kernel_rfl)) jf29) jf30) jf31)
theorem namedF : Tryz.prog.funcNamed Rows.retypeKeepsIntervalsDisjointRow.func = some 3 := by kernel_rfl
theorem byText : Rows.retypeKeepsIntervalsDisjointRow.wfByText (OpenSpec.ofChange Rows.retypeKeepsIntervalsDisjointSpec) = true := by kernel_rfl
theorem mains : Tryz.prog.mainIs = some (Rows.retypeKeepsIntervalsDisjointCard.stood.harness.1, Rows.retypeKeepsIntervalsDisjointCard.stood.harness.2.toList) := by kernel_rfl
theorem looked : true = Tryz.prog.looks [] := by kernel_rfl
theorem went : false = Rows.retypeKeepsIntervalsDisjointRow.goesBy Tryz.prog := by kernel_rfl
theorem wrapped : Tryz.f3.isWrapper Tryz.prog Rows.retypeKeepsIntervalsDisjointRow.wrapper Rows.retypeKeepsIntervalsDisjointRow.mainSum := by unfold Func.isWrapper; first | (rw [if_pos (by decide +kernel)]; kernel_rfl) | (rw [if_neg (by decide +kernel)]; exact ⟨rfl, rfl⟩)
theorem instanced : Tryz.f3.isInstance Tryz.prog Rows.retypeKeepsIntervalsDisjointRow.origin Rows.retypeKeepsIntervalsDisjointRow.targs := of_decide_eq_true (by kernel_rfl)
end Go.Proofs.Qxb6500847aGreatDoor.RtN
