/-
  The row's closed cells, one theorem each (the kernel's memory is given back between them).
-/
import Derived.Test.Qxb6500848aGreatDoorCards
import Derived.JoinedOf
import Derived.WalkKit
import Derived.Test.Qxb6500848aGreatDoorFdCellsA
import Derived.Test.Qxb6500848aGreatDoorFdCellsB
namespace Go.Proofs.Qxb6500848aGreatDoor.FdL
open Go.ChangeShapes Go.WideShapes
theorem tt {a b : Bool} (h : a = true) (k : b = true) : (a && b) = true := by rw [h, k]; rfl
theorem joined : joinedFacts Tryz.prog 5 Tryz.f5 Rows.finitelyManyDerivativesSpec Rows.finitelyManyDerivativesRow = true := by
  unfold joinedFacts
  exact (tt (tt (tt (tt (tt (tt (tt (tt (tt (tt (tt (tt (tt (tt (tt (tt (tt (tt (tt (tt (tt (tt (tt (tt (tt (tt (tt (tt (tt (tt (tt jf0 jf1) jf2) jf3) jf4) jf5) jf6) jf7) jf8) jf9) jf10) jf11) jf12) jf13) jf14) jf15) jf16) jf17) jf18) jf19) jf20) jf21) jf22) jf23) jf24) jf25) jf26) jf27) (by kernel_rfl)) jf29) jf30) jf31)
theorem named5 : Tryz.prog.funcNamed Rows.finitelyManyDerivativesRow.func = some 5 := by kernel_rfl
theorem byText : Rows.finitelyManyDerivativesRow.wfByText (OpenSpec.ofChange Rows.finitelyManyDerivativesSpec) = true := by kernel_rfl
theorem mains : Tryz.prog.mainIs = some (Rows.finitelyManyDerivativesCard.stood.harness.1, Rows.finitelyManyDerivativesCard.stood.harness.2.toList) := by kernel_rfl
theorem looked : true = Tryz.prog.looks [] := by kernel_rfl
theorem went : false = Rows.finitelyManyDerivativesRow.goesBy Tryz.prog := by kernel_rfl
theorem wrapped : Tryz.f5.isWrapper Tryz.prog Rows.finitelyManyDerivativesRow.wrapper Rows.finitelyManyDerivativesRow.mainSum := by unfold Func.isWrapper; first | (rw [if_pos (by decide +kernel)]; kernel_rfl) | (rw [if_neg (by decide +kernel)]; exact ⟨rfl, rfl⟩)
theorem instanced : Tryz.f5.isInstance Tryz.prog Rows.finitelyManyDerivativesRow.origin Rows.finitelyManyDerivativesRow.targs := of_decide_eq_true (by kernel_rfl)
end Go.Proofs.Qxb6500848aGreatDoor.FdL
