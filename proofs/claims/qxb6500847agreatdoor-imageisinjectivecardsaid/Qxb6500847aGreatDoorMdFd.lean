/-
  The abstract model: Fits: the rest.
-/
import Derived.Test.Qxb6500847aGreatDoorMdFa
namespace Go.Proofs.Qxb6500847aGreatDoor.Os
open Go.RowKit FloorA
set_option maxRecDepth 100000
set_option maxHeartbeats 8000000 in
theorem fits_4 (w : World) {f v : Nat} (hf : f < 3) (hv : v < 18446744073709551616) :
    Calls Tryz.prog 218 #[.int .u8 4, .int .i64 (f : Int), .int .u64 (v : Int)] w fun e w' => ∃ b, e = .returned (.bool b) ∧ (b = true ↔ fOk 2 f (v : Int)) ∧ w' = w := by
  rcases (by omega : f = 0 ∨ f = 1 ∨ f = 2) with rfl | rfl | rfl
  · skip
    go_enter Tryz.func218, Tryz.ntmps218
    go_wp2_with fail
    go_ret
    refine ⟨_, rfl, ?_, rfl⟩
    simp [fOk, fMax, vOk] <;> (intros; omega)
  · skip
    go_enter Tryz.func218, Tryz.ntmps218
    go_wp2_with fail
    go_ret
    refine ⟨_, rfl, ?_, rfl⟩
    simp [fOk, fMax, vOk] <;> (intros; omega)
  · skip
    go_enter Tryz.func218, Tryz.ntmps218
    go_wp2_with fail
    go_ret
    refine ⟨_, rfl, ?_, rfl⟩
    simp [fOk, fMax, vOk] <;> (intros; omega)
set_option maxHeartbeats 8000000 in
theorem fits_5 (w : World) {f v : Nat} (hf : f < 4) (hv : v < 18446744073709551616) :
    Calls Tryz.prog 218 #[.int .u8 5, .int .i64 (f : Int), .int .u64 (v : Int)] w fun e w' => ∃ b, e = .returned (.bool b) ∧ (b = true ↔ fOk 3 f (v : Int)) ∧ w' = w := by
  have HI := hideIt (isRef_m w v)
  rcases (by omega : f = 0 ∨ f = 1 ∨ f = 2 ∨ f = 3) with rfl | rfl | rfl | rfl
  · skip
    go_enter Tryz.func218, Tryz.ntmps218
    go_wp2_with fail
    go_ret
    refine ⟨true, rfl, ?_, rfl⟩
    simp [fOk, fMax, vOk] <;> (intros; omega)
  · skip
    go_enter Tryz.func218, Tryz.ntmps218
    go_wp2_with fail
    go_ret
    refine ⟨_, rfl, ?_, rfl⟩
    simp [fOk, fMax, vOk] <;> (intros; omega)
  · skip
    go_enter Tryz.func218, Tryz.ntmps218
    go_wp2_with fail
    go_ret
    refine ⟨_, rfl, ?_, rfl⟩
    simp [fOk, fMax, vOk] <;> (intros; omega)
  · skip
    go_enter Tryz.func218, Tryz.ntmps218
    go_wp2_with (go_at_call 277; refine HI.out.mono ?_; rintro e w' ⟨rfl, hw'⟩; obtain rfl := hw'.symm)
    go_ret
    refine ⟨_, rfl, ?_, rfl⟩
    simp [fOk, fMax, vOk] <;> (intros; omega)
set_option maxHeartbeats 8000000 in
theorem fits_6 (w : World) {f v : Nat} (hf : f < 2) (hv : v < 18446744073709551616) :
    Calls Tryz.prog 218 #[.int .u8 6, .int .i64 (f : Int), .int .u64 (v : Int)] w fun e w' => ∃ b, e = .returned (.bool b) ∧ (b = true ↔ fOk 4 f (v : Int)) ∧ w' = w := by
  have HI := hideIt (isRef_m w v)
  rcases (by omega : f = 0 ∨ f = 1) with rfl | rfl
  · skip
    go_enter Tryz.func218, Tryz.ntmps218
    go_wp2_with (go_at_call 277; refine HI.out.mono ?_; rintro e w' ⟨rfl, hw'⟩; obtain rfl := hw'.symm)
    go_ret
    refine ⟨_, rfl, ?_, rfl⟩
    simp [fOk, fMax, vOk] <;> (intros; omega)
  · skip
    go_enter Tryz.func218, Tryz.ntmps218
    go_wp2_with fail
    go_ret
    refine ⟨_, rfl, ?_, rfl⟩
    simp [fOk, fMax, vOk] <;> (intros; omega)
set_option maxHeartbeats 8000000 in
theorem fits_7 (w : World) {f v : Nat} (hf : f < 4) (hv : v < 18446744073709551616) :
    Calls Tryz.prog 218 #[.int .u8 7, .int .i64 (f : Int), .int .u64 (v : Int)] w fun e w' => ∃ b, e = .returned (.bool b) ∧ (b = true ↔ fOk 5 f (v : Int)) ∧ w' = w := by
  have HI := hideIt (isRef_m w v)
  rcases (by omega : f = 0 ∨ f = 1 ∨ f = 2 ∨ f = 3) with rfl | rfl | rfl | rfl
  · skip
    go_enter Tryz.func218, Tryz.ntmps218
    go_wp2_with fail
    go_ret
    refine ⟨_, rfl, ?_, rfl⟩
    simp [fOk, fMax, vOk] <;> (intros; omega)
  · skip
    go_enter Tryz.func218, Tryz.ntmps218
    go_wp2_with (go_at_call 277; refine HI.out.mono ?_; rintro e w' ⟨rfl, hw'⟩; obtain rfl := hw'.symm)
    go_ret
    refine ⟨_, rfl, ?_, rfl⟩
    simp [fOk, fMax, vOk] <;> (intros; omega)
  · skip
    go_enter Tryz.func218, Tryz.ntmps218
    go_wp2_with fail
    go_ret
    refine ⟨true, rfl, ?_, rfl⟩
    simp [fOk, fMax, vOk] <;> (intros; omega)
  · skip
    go_enter Tryz.func218, Tryz.ntmps218
    go_wp2_with fail
    go_ret
    refine ⟨_, rfl, ?_, rfl⟩
    simp [fOk, fMax, vOk] <;> (intros; omega)
end Go.Proofs.Qxb6500847aGreatDoor.Os
