/-
  The abstract model: sizeOf, most, Fields.
-/
import Derived.Test.Qxb6500847aGreatDoorMdA
import Derived.Test.Qxb6500847aGreatDoorOxY
namespace Go.Proofs.Qxb6500847aGreatDoor.Os
open Go.RowKit FloorA
set_option maxRecDepth 100000
set_option maxHeartbeats 1600000 in
theorem sizeOf_m (w : World) {t b : Nat} (hb : b < 256) :
    Calls Tryz.prog 208 #[.int .u8 (t : Int), .int .u8 (b : Int)] w (SzX t b w) := by
  by_cases h1 : t = 1
  · subst h1
    by_cases b1 : b < 4
    · have c2 : (b : Int) < 4 := by omega
      have HZ : Hid (szC 1 b = 5) := by show szC 1 b = 5; unfold szC; first | rw [if_pos (by omega)] | rw [if_neg (by omega), if_pos (by omega), if_pos (by omega)] | rw [if_neg (by omega), if_neg (by omega), if_pos (by omega)]
      go_enter Tryz.func208, Tryz.ntmps208
      go_wp2_with fail
      exact bodyPost_ret (v := .tuple #[.int .u64 0, .int .u8 5]) (by simp [results, Tryz.results208]) rfl ⟨rfl, Or.inl (by rw [HZ.out]; exact ⟨by decide, rfl⟩)⟩
    · have c2 : ¬ (b : Int) < 4 := by omega
      by_cases b2 : 47 < b
      · have c3 : (b : Int) > 47 := by omega
        have HZ : Hid (szC 1 b = 5) := by show szC 1 b = 5; unfold szC; first | rw [if_pos (by omega)] | rw [if_neg (by omega), if_pos (by omega), if_pos (by omega)] | rw [if_neg (by omega), if_neg (by omega), if_pos (by omega)]
        go_enter Tryz.func208, Tryz.ntmps208
        go_wp2_with fail
        exact bodyPost_ret (v := .tuple #[.int .u64 0, .int .u8 5]) (by simp [results, Tryz.results208]) rfl ⟨rfl, Or.inl (by rw [HZ.out]; exact ⟨by decide, rfl⟩)⟩
      · have c3 : ¬ (b : Int) > 47 := by omega
        have HS := hideIt (shl64 b (by omega))
        have HZ : Hid (szC 1 b = 0) := by show szC 1 b = 0; unfold szC; rw [if_neg (by omega), if_pos rfl, if_neg (by omega)]
        go_enter Tryz.func208, Tryz.ntmps208
        go_wp2_with fail
        rw [HS.out]
        exact bodyPost_ret (v := .tuple #[.int .u64 ((2 ^ b : Nat) : Int), .int .u8 0]) (by simp [results, Tryz.results208]) rfl ⟨rfl, Or.inr ⟨HZ.out, by omega, by omega, by show (if 1 = 1 then b else _) ≤ 47; rw [if_pos rfl]; omega, fun _ => by show 4 ≤ (if 1 = 1 then b else _); rw [if_pos rfl]; omega, by show _ = _; rw [show szQ 1 b = b from if_pos rfl]⟩⟩
  have e1 : ((t : Int) == 1) = false := by rw [beq_eq_false_iff_ne]; omega
  by_cases h2 : t = 2
  · subst h2
    by_cases b0 : b = 0
    · subst b0
      have HZ : Hid (szC 2 0 = 0) := rfl
      go_enter Tryz.func208, Tryz.ntmps208
      go_wp2_with fail
      exact bodyPost_ret (v := .tuple #[.int .u64 512, .int .u8 0]) (by simp [results, Tryz.results208]) rfl ⟨rfl, Or.inr ⟨HZ.out, by omega, by omega, by decide, fun q => by omega, rfl⟩⟩
    · have c2 : ((b : Int) != 0) = true := by rw [bne_iff_ne]; omega
      have HZ : Hid (szC 2 b = 5) := by show szC 2 b = 5; unfold szC; first | rw [if_pos (by omega)] | rw [if_neg (by omega), if_pos (by omega), if_pos (by omega)] | rw [if_neg (by omega), if_neg (by omega), if_pos (by omega)]
      go_enter Tryz.func208, Tryz.ntmps208
      go_wp2_with fail
      exact bodyPost_ret (v := .tuple #[.int .u64 0, .int .u8 5]) (by simp [results, Tryz.results208]) rfl ⟨rfl, Or.inl (by rw [HZ.out]; exact ⟨by decide, rfl⟩)⟩
  have e2 : ((t : Int) == 2) = false := by rw [beq_eq_false_iff_ne]; omega
  by_cases h3 : t = 3
  · subst h3
    by_cases b0 : b = 0
    · subst b0
      have HZ : Hid (szC 3 0 = 0) := rfl
      go_enter Tryz.func208, Tryz.ntmps208
      go_wp2_with fail
      exact bodyPost_ret (v := .tuple #[.int .u64 1024, .int .u8 0]) (by simp [results, Tryz.results208]) rfl ⟨rfl, Or.inr ⟨HZ.out, by omega, by omega, by decide, fun q => by omega, rfl⟩⟩
    · have c2 : ((b : Int) != 0) = true := by rw [bne_iff_ne]; omega
      have HZ : Hid (szC 3 b = 5) := by show szC 3 b = 5; unfold szC; first | rw [if_pos (by omega)] | rw [if_neg (by omega), if_pos (by omega), if_pos (by omega)] | rw [if_neg (by omega), if_neg (by omega), if_pos (by omega)]
      go_enter Tryz.func208, Tryz.ntmps208
      go_wp2_with fail
      exact bodyPost_ret (v := .tuple #[.int .u64 0, .int .u8 5]) (by simp [results, Tryz.results208]) rfl ⟨rfl, Or.inl (by rw [HZ.out]; exact ⟨by decide, rfl⟩)⟩
  have e3 : ((t : Int) == 3) = false := by rw [beq_eq_false_iff_ne]; omega
  by_cases h4 : t = 4
  · subst h4
    by_cases b0 : b = 0
    · subst b0
      have HZ : Hid (szC 4 0 = 0) := rfl
      go_enter Tryz.func208, Tryz.ntmps208
      go_wp2_with fail
      exact bodyPost_ret (v := .tuple #[.int .u64 16, .int .u8 0]) (by simp [results, Tryz.results208]) rfl ⟨rfl, Or.inr ⟨HZ.out, by omega, by omega, by decide, fun q => by omega, rfl⟩⟩
    · have c2 : ((b : Int) != 0) = true := by rw [bne_iff_ne]; omega
      have HZ : Hid (szC 4 b = 5) := by show szC 4 b = 5; unfold szC; first | rw [if_pos (by omega)] | rw [if_neg (by omega), if_pos (by omega), if_pos (by omega)] | rw [if_neg (by omega), if_neg (by omega), if_pos (by omega)]
      go_enter Tryz.func208, Tryz.ntmps208
      go_wp2_with fail
      exact bodyPost_ret (v := .tuple #[.int .u64 0, .int .u8 5]) (by simp [results, Tryz.results208]) rfl ⟨rfl, Or.inl (by rw [HZ.out]; exact ⟨by decide, rfl⟩)⟩
  have e4 : ((t : Int) == 4) = false := by rw [beq_eq_false_iff_ne]; omega
  by_cases h5 : t = 5
  · subst h5
    by_cases b0 : b = 0
    · subst b0
      have HZ : Hid (szC 5 0 = 0) := rfl
      go_enter Tryz.func208, Tryz.ntmps208
      go_wp2_with fail
      exact bodyPost_ret (v := .tuple #[.int .u64 32, .int .u8 0]) (by simp [results, Tryz.results208]) rfl ⟨rfl, Or.inr ⟨HZ.out, by omega, by omega, by decide, fun q => by omega, rfl⟩⟩
    · have c2 : ((b : Int) != 0) = true := by rw [bne_iff_ne]; omega
      have HZ : Hid (szC 5 b = 5) := by show szC 5 b = 5; unfold szC; first | rw [if_pos (by omega)] | rw [if_neg (by omega), if_pos (by omega), if_pos (by omega)] | rw [if_neg (by omega), if_neg (by omega), if_pos (by omega)]
      go_enter Tryz.func208, Tryz.ntmps208
      go_wp2_with fail
      exact bodyPost_ret (v := .tuple #[.int .u64 0, .int .u8 5]) (by simp [results, Tryz.results208]) rfl ⟨rfl, Or.inl (by rw [HZ.out]; exact ⟨by decide, rfl⟩)⟩
  have e5 : ((t : Int) == 5) = false := by rw [beq_eq_false_iff_ne]; omega
  by_cases h6 : t = 6
  · subst h6
    by_cases b0 : b = 0
    · subst b0
      have HZ : Hid (szC 6 0 = 0) := rfl
      go_enter Tryz.func208, Tryz.ntmps208
      go_wp2_with fail
      exact bodyPost_ret (v := .tuple #[.int .u64 16, .int .u8 0]) (by simp [results, Tryz.results208]) rfl ⟨rfl, Or.inr ⟨HZ.out, by omega, by omega, by decide, fun q => by omega, rfl⟩⟩
    · have c2 : ((b : Int) != 0) = true := by rw [bne_iff_ne]; omega
      have HZ : Hid (szC 6 b = 5) := by show szC 6 b = 5; unfold szC; first | rw [if_pos (by omega)] | rw [if_neg (by omega), if_pos (by omega), if_pos (by omega)] | rw [if_neg (by omega), if_neg (by omega), if_pos (by omega)]
      go_enter Tryz.func208, Tryz.ntmps208
      go_wp2_with fail
      exact bodyPost_ret (v := .tuple #[.int .u64 0, .int .u8 5]) (by simp [results, Tryz.results208]) rfl ⟨rfl, Or.inl (by rw [HZ.out]; exact ⟨by decide, rfl⟩)⟩
  have e6 : ((t : Int) == 6) = false := by rw [beq_eq_false_iff_ne]; omega
  by_cases h7 : t = 7
  · subst h7
    by_cases b0 : b = 0
    · subst b0
      have HZ : Hid (szC 7 0 = 0) := rfl
      go_enter Tryz.func208, Tryz.ntmps208
      go_wp2_with fail
      exact bodyPost_ret (v := .tuple #[.int .u64 16, .int .u8 0]) (by simp [results, Tryz.results208]) rfl ⟨rfl, Or.inr ⟨HZ.out, by omega, by omega, by decide, fun q => by omega, rfl⟩⟩
    · have c2 : ((b : Int) != 0) = true := by rw [bne_iff_ne]; omega
      have HZ : Hid (szC 7 b = 5) := by show szC 7 b = 5; unfold szC; first | rw [if_pos (by omega)] | rw [if_neg (by omega), if_pos (by omega), if_pos (by omega)] | rw [if_neg (by omega), if_neg (by omega), if_pos (by omega)]
      go_enter Tryz.func208, Tryz.ntmps208
      go_wp2_with fail
      exact bodyPost_ret (v := .tuple #[.int .u64 0, .int .u8 5]) (by simp [results, Tryz.results208]) rfl ⟨rfl, Or.inl (by rw [HZ.out]; exact ⟨by decide, rfl⟩)⟩
  have e7 : ((t : Int) == 7) = false := by rw [beq_eq_false_iff_ne]; omega
  have HZ : Hid (szC t b = 4) := by show szC t b = 4; unfold szC; first | rw [if_pos (by omega)] | rw [if_neg (by omega), if_pos (by omega), if_pos (by omega)] | rw [if_neg (by omega), if_neg (by omega), if_pos (by omega)]
  go_enter Tryz.func208, Tryz.ntmps208
  go_wp2_with fail
  exact bodyPost_ret (v := .tuple #[.int .u64 0, .int .u8 4]) (by simp [results, Tryz.results208]) rfl ⟨rfl, Or.inl (by rw [HZ.out]; exact ⟨by decide, rfl⟩)⟩
def mosT : Nat → Int
  | 1 => 64
  | 2 => 64
  | 3 => 64
  | 4 => 128
  | 5 => 64
  | 6 => 64
  | 7 => 32
  | _ => 0
theorem most_m (w : World) (t : Nat) :
    Calls Tryz.prog 276 #[.int .u8 (t : Int)] w fun e w' => e = .returned (.int .i64 (mosT t)) ∧ w' = w := by
  by_cases h1 : t = 1
  · subst h1
    go_enter Tryz.func276, Tryz.ntmps276
    go_wp2_with fail
    go_ret
    exact ⟨rfl, rfl⟩
  have e1 : ((t : Int) == 1) = false := by rw [beq_eq_false_iff_ne]; omega
  by_cases h2 : t = 2
  · subst h2
    go_enter Tryz.func276, Tryz.ntmps276
    go_wp2_with fail
    go_ret
    exact ⟨rfl, rfl⟩
  have e2 : ((t : Int) == 2) = false := by rw [beq_eq_false_iff_ne]; omega
  by_cases h3 : t = 3
  · subst h3
    go_enter Tryz.func276, Tryz.ntmps276
    go_wp2_with fail
    go_ret
    exact ⟨rfl, rfl⟩
  have e3 : ((t : Int) == 3) = false := by rw [beq_eq_false_iff_ne]; omega
  by_cases h4 : t = 4
  · subst h4
    go_enter Tryz.func276, Tryz.ntmps276
    go_wp2_with fail
    go_ret
    exact ⟨rfl, rfl⟩
  have e4 : ((t : Int) == 4) = false := by rw [beq_eq_false_iff_ne]; omega
  by_cases h5 : t = 5
  · subst h5
    go_enter Tryz.func276, Tryz.ntmps276
    go_wp2_with fail
    go_ret
    exact ⟨rfl, rfl⟩
  have e5 : ((t : Int) == 5) = false := by rw [beq_eq_false_iff_ne]; omega
  by_cases h6 : t = 6
  · subst h6
    go_enter Tryz.func276, Tryz.ntmps276
    go_wp2_with fail
    go_ret
    exact ⟨rfl, rfl⟩
  have e6 : ((t : Int) == 6) = false := by rw [beq_eq_false_iff_ne]; omega
  by_cases h7 : t = 7
  · subst h7
    go_enter Tryz.func276, Tryz.ntmps276
    go_wp2_with fail
    go_ret
    exact ⟨rfl, rfl⟩
  have e7 : ((t : Int) == 7) = false := by rw [beq_eq_false_iff_ne]; omega
  have HD : Hid (mosT t = 0) := by
    show mosT t = 0
    unfold mosT
    split <;> first | rfl | (exfalso; omega)
  go_enter Tryz.func276, Tryz.ntmps276
  go_wp2_with fail
  go_ret
  exact ⟨by rw [HD.out]; rfl, rfl⟩
def fldT : Nat → Int
  | 2 => 112
  | 3 => 18
  | 4 => 3
  | 5 => 4
  | 6 => 2
  | 7 => 4
  | _ => 0
theorem Fields_m (w : World) (t : Nat) :
    Calls Tryz.prog 210 #[.int .u8 (t : Int)] w fun e w' => e = .returned (.int .i64 (fldT t)) ∧ w' = w := by
  by_cases h2 : t = 2
  · subst h2
    go_enter Tryz.func210, Tryz.ntmps210
    go_wp2_with fail
    go_ret
    exact ⟨rfl, rfl⟩
  have e2 : ((t : Int) == 2) = false := by rw [beq_eq_false_iff_ne]; omega
  by_cases h3 : t = 3
  · subst h3
    go_enter Tryz.func210, Tryz.ntmps210
    go_wp2_with fail
    go_ret
    exact ⟨rfl, rfl⟩
  have e3 : ((t : Int) == 3) = false := by rw [beq_eq_false_iff_ne]; omega
  by_cases h4 : t = 4
  · subst h4
    go_enter Tryz.func210, Tryz.ntmps210
    go_wp2_with fail
    go_ret
    exact ⟨rfl, rfl⟩
  have e4 : ((t : Int) == 4) = false := by rw [beq_eq_false_iff_ne]; omega
  by_cases h5 : t = 5
  · subst h5
    go_enter Tryz.func210, Tryz.ntmps210
    go_wp2_with fail
    go_ret
    exact ⟨rfl, rfl⟩
  have e5 : ((t : Int) == 5) = false := by rw [beq_eq_false_iff_ne]; omega
  by_cases h6 : t = 6
  · subst h6
    go_enter Tryz.func210, Tryz.ntmps210
    go_wp2_with fail
    go_ret
    exact ⟨rfl, rfl⟩
  have e6 : ((t : Int) == 6) = false := by rw [beq_eq_false_iff_ne]; omega
  by_cases h7 : t = 7
  · subst h7
    go_enter Tryz.func210, Tryz.ntmps210
    go_wp2_with fail
    go_ret
    exact ⟨rfl, rfl⟩
  have e7 : ((t : Int) == 7) = false := by rw [beq_eq_false_iff_ne]; omega
  have HD : Hid (fldT t = 0) := by
    show fldT t = 0
    unfold fldT
    split <;> first | rfl | (exfalso; omega)
  go_enter Tryz.func210, Tryz.ntmps210
  go_wp2_with fail
  go_ret
  exact ⟨by rw [HD.out]; rfl, rfl⟩
theorem mos_nR {t : Nat} (h2 : 2 ≤ t) (h7 : t ≤ 7) : mosT t = (nR (t - 2) : Int) := by
  obtain rfl | rfl | rfl | rfl | rfl | rfl : t = 2 ∨ t = 3 ∨ t = 4 ∨ t = 5 ∨ t = 6 ∨ t = 7 := by omega
  all_goals rfl
theorem fld_nF {t : Nat} (h2 : 2 ≤ t) (h7 : t ≤ 7) : fldT t = (nF (t - 2) : Int) := by
  obtain rfl | rfl | rfl | rfl | rfl | rfl : t = 2 ∨ t = 3 ∨ t = 4 ∨ t = 5 ∨ t = 6 ∨ t = 7 := by omega
  all_goals rfl
end Go.Proofs.Qxb6500847aGreatDoor.Os
