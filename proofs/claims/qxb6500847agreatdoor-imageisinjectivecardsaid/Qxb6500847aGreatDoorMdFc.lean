/-
  The abstract model: Fits: threads.
-/
import Derived.Test.Qxb6500847aGreatDoorMdFa
namespace Go.Proofs.Qxb6500847aGreatDoor.Os
open Go.RowKit FloorA
set_option maxRecDepth 100000
set_option maxHeartbeats 8000000 in
theorem fits_3b (w : World) {f v : Nat} (h9 : 9 ≤ f) (hf : f < 18) (hv : v < 18446744073709551616) :
    Calls Tryz.prog 218 #[.int .u8 3, .int .i64 (f : Int), .int .u64 (v : Int)] w fun e w' => ∃ b, e = .returned (.bool b) ∧ (b = true ↔ fOk 1 f (v : Int)) ∧ w' = w := by
  rcases (by omega : f = 9 ∨ f = 10 ∨ f = 11 ∨ f = 12 ∨ f = 13 ∨ f = 14 ∨ f = 15 ∨ f = 16 ∨ f = 17) with rfl | rfl | rfl | rfl | rfl | rfl | rfl | rfl | rfl
  · skip
    go_enter Tryz.func218, Tryz.ntmps218
    go_wp2_with fail
    go_ret
    refine ⟨true, rfl, ?_, rfl⟩
    simp [fOk, fMax, vOk] <;> (intros; omega)
  · skip
    go_enter Tryz.func218, Tryz.ntmps218
    go_wp2_with fail
    go_ret
    refine ⟨_, rfl, ?_, rfl⟩
    simp [fOk, fMax, vOk] <;> (intros; omega)
  · skip
    go_enter Tryz.func218, Tryz.ntmps218
    go_wp2_with fail
    go_ret
    refine ⟨true, rfl, ?_, rfl⟩
    simp [fOk, fMax, vOk] <;> (intros; omega)
  · skip
    go_enter Tryz.func218, Tryz.ntmps218
    go_wp2_with fail
    go_ret
    refine ⟨true, rfl, ?_, rfl⟩
    simp [fOk, fMax, vOk] <;> (intros; omega)
  · skip
    go_enter Tryz.func218, Tryz.ntmps218
    go_wp2_with fail
    go_ret
    refine ⟨true, rfl, ?_, rfl⟩
    simp [fOk, fMax, vOk] <;> (intros; omega)
  · skip
    go_enter Tryz.func218, Tryz.ntmps218
    go_wp2_with fail
    go_ret
    refine ⟨true, rfl, ?_, rfl⟩
    simp [fOk, fMax, vOk] <;> (intros; omega)
  · skip
    go_enter Tryz.func218, Tryz.ntmps218
    go_wp2_with fail
    go_ret
    refine ⟨_, rfl, ?_, rfl⟩
    simp [fOk, fMax, vOk] <;> (intros; omega)
  · skip
    go_enter Tryz.func218, Tryz.ntmps218
    go_wp2_with fail
    go_ret
    refine ⟨_, rfl, ?_, rfl⟩
    simp [fOk, fMax, vOk] <;> (intros; omega)
  · skip
    go_enter Tryz.func218, Tryz.ntmps218
    go_wp2_with fail
    go_ret
    refine ⟨_, rfl, ?_, rfl⟩
    simp [fOk, fMax, vOk] <;> (intros; omega)
end Go.Proofs.Qxb6500847aGreatDoor.Os
