/-
  The abstract model: Fits: threads.
-/
import Derived.Test.Qxb6500847aGreatDoorMdFa
namespace Go.Proofs.Qxb6500847aGreatDoor.Os
open Go.RowKit FloorA
set_option maxRecDepth 100000
set_option maxHeartbeats 8000000 in
theorem fits_3a (w : World) {f v : Nat} (hf : f < 9) (hv : v < 18446744073709551616) :
    Calls Tryz.prog 218 #[.int .u8 3, .int .i64 (f : Int), .int .u64 (v : Int)] w fun e w' => ∃ b, e = .returned (.bool b) ∧ (b = true ↔ fOk 1 f (v : Int)) ∧ w' = w := by
  have HI := hideIt (isRef_m w v)
  rcases (by omega : f = 0 ∨ f = 1 ∨ f = 2 ∨ f = 3 ∨ f = 4 ∨ f = 5 ∨ f = 6 ∨ f = 7 ∨ f = 8) with rfl | rfl | rfl | rfl | rfl | rfl | rfl | rfl | rfl
  · skip
    go_enter Tryz.func218, Tryz.ntmps218
    go_wp2_with fail
    go_ret
    refine ⟨_, rfl, ?_, rfl⟩
    simp [fOk, fMax, vOk] <;> (intros; omega)
  · skip
    go_enter Tryz.func218, Tryz.ntmps218
    go_wp2_with fail
    go_ret
    refine ⟨_, rfl, ?_, rfl⟩
    simp [fOk, fMax, vOk] <;> (intros; omega)
  · skip
    go_enter Tryz.func218, Tryz.ntmps218
    go_wp2_with (go_at_call 277; refine HI.out.mono ?_; rintro e w' ⟨rfl, hw'⟩; obtain rfl := hw'.symm)
    go_ret
    refine ⟨_, rfl, ?_, rfl⟩
    simp [fOk, fMax, vOk] <;> (intros; omega)
  · skip
    go_enter Tryz.func218, Tryz.ntmps218
    go_wp2_with fail
    go_ret
    refine ⟨_, rfl, ?_, rfl⟩
    simp [fOk, fMax, vOk] <;> (intros; omega)
  · skip
    go_enter Tryz.func218, Tryz.ntmps218
    go_wp2_with fail
    go_ret
    refine ⟨_, rfl, ?_, rfl⟩
    simp [fOk, fMax, vOk] <;> (intros; omega)
  · skip
    go_enter Tryz.func218, Tryz.ntmps218
    go_wp2_with (go_at_call 277; refine HI.out.mono ?_; rintro e w' ⟨rfl, hw'⟩; obtain rfl := hw'.symm)
    go_ret
    refine ⟨_, rfl, ?_, rfl⟩
    simp [fOk, fMax, vOk] <;> (intros; omega)
  · skip
    go_enter Tryz.func218, Tryz.ntmps218
    go_wp2_with fail
    go_ret
    refine ⟨_, rfl, ?_, rfl⟩
    simp [fOk, fMax, vOk] <;> (intros; omega)
  · skip
    go_enter Tryz.func218, Tryz.ntmps218
    go_wp2_with (go_at_call 277; refine HI.out.mono ?_; rintro e w' ⟨rfl, hw'⟩; obtain rfl := hw'.symm)
    go_ret
    refine ⟨_, rfl, ?_, rfl⟩
    simp [fOk, fMax, vOk] <;> (intros; omega)
  · skip
    go_enter Tryz.func218, Tryz.ntmps218
    go_wp2_with (go_at_call 277; refine HI.out.mono ?_; rintro e w' ⟨rfl, hw'⟩; obtain rfl := hw'.symm)
    go_ret
    refine ⟨_, rfl, ?_, rfl⟩
    simp [fOk, fMax, vOk] <;> (intros; omega)
end Go.Proofs.Qxb6500847aGreatDoor.Os
