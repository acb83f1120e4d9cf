/-
  The abstract model: Fits: cells.
-/
import Derived.Test.Qxb6500847aGreatDoorMdJ
namespace Go.Proofs.Qxb6500847aGreatDoor.Os
open Go.RowKit FloorA
set_option maxRecDepth 100000
theorem isRef_m (w : World) (v : Nat) :
    Calls Tryz.prog 277 #[.int .u64 (v : Int)] w fun e w' => e = .returned (.bool (decide (v < 281474976710656 ∧ v % 65536 < 320))) ∧ w' = w := by
  obtain ⟨r, hr⟩ : ∃ r : Nat, r = v % 65536 := ⟨_, rfl⟩
  have hmod : ((v : Int) % 65536) = (r : Int) := by rw [hr]; simp
  obtain ⟨R, hR⟩ : ∃ R, R = decide (v < 281474976710656 ∧ v % 65536 < 320) := ⟨_, rfl⟩
  rw [← hR]
  have HR := hideIt hR
  clear hR
  by_cases h : (v : Int) < 281474976710656
  · by_cases h2 : (r : Int) < 320
    · have HF : Hid (R = true) := by show R = true; rw [HR.out, decide_eq_true_eq]; omega
      clear HR hr
      go_enter Tryz.func277, Tryz.ntmps277
      go_wp2_with fail
      go_ret
      exact ⟨by rw [HF.out]; rfl, rfl⟩
    · have HF : Hid (R = false) := by show R = false; rw [HR.out, decide_eq_false_iff_not]; omega
      clear HR hr
      go_enter Tryz.func277, Tryz.ntmps277
      go_wp2_with fail
      go_ret
      exact ⟨by rw [HF.out]; rfl, rfl⟩
  · have HF : Hid (R = false) := by show R = false; rw [HR.out, decide_eq_false_iff_not]; omega
    clear HR hr
    go_enter Tryz.func277, Tryz.ntmps277
    go_wp2_with fail
    go_ret
    exact ⟨by rw [HF.out]; rfl, rfl⟩
set_option maxHeartbeats 8000000 in
theorem fits_2 (w : World) {f v : Nat} (hf : f < 112) (hv : v < 18446744073709551616) :
    Calls Tryz.prog 218 #[.int .u8 2, .int .i64 (f : Int), .int .u64 (v : Int)] w fun e w' => ∃ b, e = .returned (.bool b) ∧ (b = true ↔ fOk 0 f (v : Int)) ∧ w' = w := by
  have HI := hideIt (isRef_m w v)
  rcases (by omega : f % 7 = 0 ∨ f % 7 = 1 ∨ f % 7 = 2 ∨ f % 7 = 3 ∨ f % 7 = 4 ∨ f % 7 = 5 ∨ f % 7 = 6) with hr | hr | hr | hr | hr | hr | hr
  · have hm : (f : Int).tmod 7 = 0 := by rw [Int.tmod_eq_emod_of_nonneg (by omega)]; omega
    go_enter Tryz.func218, Tryz.ntmps218
    go_wp2_with (go_at_call 277; refine HI.out.mono ?_; rintro e w' ⟨rfl, hw'⟩; obtain rfl := hw'.symm)
    go_ret
    refine ⟨_, rfl, ?_, rfl⟩
    simp [fOk, fMax, vOk, cOk, hr] <;> (intros; omega)
  · have hm : (f : Int).tmod 7 = 1 := by rw [Int.tmod_eq_emod_of_nonneg (by omega)]; omega
    go_enter Tryz.func218, Tryz.ntmps218
    go_wp2_with fail
    go_ret
    refine ⟨_, rfl, ?_, rfl⟩
    simp [fOk, fMax, vOk, cOk, hr] <;> (intros; omega)
  · have hm : (f : Int).tmod 7 = 2 := by rw [Int.tmod_eq_emod_of_nonneg (by omega)]; omega
    go_enter Tryz.func218, Tryz.ntmps218
    go_wp2_with fail
    go_ret
    refine ⟨true, rfl, ?_, rfl⟩
    simp [fOk, fMax, vOk, cOk, hr] <;> (intros; omega)
  · have hm : (f : Int).tmod 7 = 3 := by rw [Int.tmod_eq_emod_of_nonneg (by omega)]; omega
    go_enter Tryz.func218, Tryz.ntmps218
    go_wp2_with fail
    go_ret
    refine ⟨_, rfl, ?_, rfl⟩
    simp [fOk, fMax, vOk, cOk, hr] <;> (intros; omega)
  · have hm : (f : Int).tmod 7 = 4 := by rw [Int.tmod_eq_emod_of_nonneg (by omega)]; omega
    go_enter Tryz.func218, Tryz.ntmps218
    go_wp2_with fail
    go_ret
    refine ⟨_, rfl, ?_, rfl⟩
    simp [fOk, fMax, vOk, cOk, hr] <;> (intros; omega)
  · have hm : (f : Int).tmod 7 = 5 := by rw [Int.tmod_eq_emod_of_nonneg (by omega)]; omega
    go_enter Tryz.func218, Tryz.ntmps218
    go_wp2_with fail
    go_ret
    refine ⟨_, rfl, ?_, rfl⟩
    simp [fOk, fMax, vOk, cOk, hr] <;> (intros; omega)
  · have hm : (f : Int).tmod 7 = 6 := by rw [Int.tmod_eq_emod_of_nonneg (by omega)]; omega
    go_enter Tryz.func218, Tryz.ntmps218
    go_wp2_with fail
    go_ret
    refine ⟨_, rfl, ?_, rfl⟩
    simp [fOk, fMax, vOk, cOk, hr] <;> (intros; omega)
end Go.Proofs.Qxb6500847aGreatDoor.Os
