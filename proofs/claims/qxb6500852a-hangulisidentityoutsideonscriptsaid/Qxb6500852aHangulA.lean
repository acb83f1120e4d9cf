/-
  The walks of the small Hangul functions: each computes a plain Bool or number.
-/
import Derived.Test.Qxb6500852aRows
import Derived.WalkKit
import Derived.WalkSpells
import Derived.WalkLawsBesides
namespace Go.Proofs.Qxb6500852a.HangulA
open Go.RowKit

def sB (a : Int) : Bool := decide (44032 ≤ a) && decide (a ≤ 55203)
def lB (a : Int) : Bool := decide (4352 ≤ a) && decide (a ≤ 4370)
def vB (a : Int) : Bool := decide (4449 ≤ a) && decide (a ≤ 4469)
def tB (a : Int) : Bool := decide (4520 ≤ a) && decide (a ≤ 4546)

theorem ret_bool {a b : Bool} (h : a = b) : Ending.returned (.bool a) = .returned (.bool b) := by rw [h]
theorem sB_iff (a : Int) : sB a = true ↔ (44032 ≤ a ∧ a ≤ 55203) := by simp [sB]
theorem lB_iff (a : Int) : lB a = true ↔ (4352 ≤ a ∧ a ≤ 4370) := by simp [lB]
theorem vB_iff (a : Int) : vB a = true ↔ (4449 ≤ a ∧ a ≤ 4469) := by simp [vB]
theorem tB_iff (a : Int) : tB a = true ↔ (4520 ≤ a ∧ a ≤ 4546) := by simp [tB]
/-- the open end and the closed end say one thing -/
theorem dec_lt (a k : Int) : decide (a < k + 1) = decide (a ≤ k) := by
  rw [Bool.eq_iff_iff]; simp; omega

set_option maxHeartbeats 400000 in
theorem isS_any (a : Int) (w : World) :
    Calls Try.prog 7 #[.int .i32 a] w fun e w' => e = .returned (.bool (sB a)) ∧ w' = w := by
  by_cases h1 : 44032 ≤ a
  all_goals
    go_enter Try.func7, Try.ntmps7
    go_wp2
    go_ret
    exact ⟨ret_bool (by rw [Bool.eq_iff_iff, sB_iff]; simp; omega), rfl⟩
set_option maxHeartbeats 400000 in
theorem isL_any (a : Int) (w : World) :
    Calls Try.prog 15 #[.int .i32 a] w fun e w' => e = .returned (.bool (lB a)) ∧ w' = w := by
  by_cases h1 : 4352 ≤ a
  all_goals
    go_enter Try.func15, Try.ntmps15
    go_wp2
    go_ret
    exact ⟨ret_bool (by rw [Bool.eq_iff_iff, lB_iff]; simp; omega), rfl⟩
set_option maxHeartbeats 400000 in
theorem isV_any (a : Int) (w : World) :
    Calls Try.prog 16 #[.int .i32 a] w fun e w' => e = .returned (.bool (vB a)) ∧ w' = w := by
  by_cases h1 : 4449 ≤ a
  all_goals
    go_enter Try.func16, Try.ntmps16
    go_wp2
    go_ret
    exact ⟨ret_bool (by rw [Bool.eq_iff_iff, vB_iff]; simp; omega), rfl⟩
set_option maxHeartbeats 400000 in
theorem isT_any (a : Int) (w : World) :
    Calls Try.prog 17 #[.int .i32 a] w fun e w' => e = .returned (.bool (tB a)) ∧ w' = w := by
  by_cases h1 : 4520 ≤ a
  all_goals
    go_enter Try.func17, Try.ntmps17
    go_wp2
    go_ret
    exact ⟨ret_bool (by rw [Bool.eq_iff_iff, tB_iff]; simp; omega), rfl⟩
set_option maxHeartbeats 400000 in
theorem isSyllable_any (a : Int) (w : World) :
    Calls Try.prog 9 #[.int .i32 a] w fun e w' => e = .returned (.bool (sB a)) ∧ w' = w := by
  by_cases h1 : 44032 ≤ a
  all_goals
    go_enter Try.func9, Try.ntmps9
    go_wp2
    go_ret
    exact ⟨ret_bool (by rw [Bool.eq_iff_iff, sB_iff]; simp; omega), rfl⟩
set_option maxHeartbeats 400000 in
theorem isLeading_any (a : Int) (w : World) :
    Calls Try.prog 12 #[.int .i32 a] w fun e w' => e = .returned (.bool (lB a)) ∧ w' = w := by
  by_cases h1 : 4352 ≤ a
  all_goals
    go_enter Try.func12, Try.ntmps12
    go_wp2
    go_ret
    exact ⟨ret_bool (by rw [Bool.eq_iff_iff, lB_iff]; simp; omega), rfl⟩
set_option maxHeartbeats 400000 in
theorem isVowel_any (a : Int) (w : World) :
    Calls Try.prog 13 #[.int .i32 a] w fun e w' => e = .returned (.bool (vB a)) ∧ w' = w := by
  by_cases h1 : 4449 ≤ a
  all_goals
    go_enter Try.func13, Try.ntmps13
    go_wp2
    go_ret
    exact ⟨ret_bool (by rw [Bool.eq_iff_iff, vB_iff]; simp; omega), rfl⟩
set_option maxHeartbeats 400000 in
theorem isTrailing_any (a : Int) (w : World) :
    Calls Try.prog 14 #[.int .i32 a] w fun e w' => e = .returned (.bool (tB a)) ∧ w' = w := by
  by_cases h1 : 4519 < a
  all_goals
    go_enter Try.func14, Try.ntmps14
    go_wp2
    go_ret
    exact ⟨ret_bool (by rw [Bool.eq_iff_iff, tB_iff]; simp; omega), rfl⟩

/-- The open syllables: the test on the remainder. -/
def openB (a : Int) : Bool := (a - 44032) % 28 == 0

/-- The pairs that may be joined. -/
def properB (a b : Int) : Bool := (lB a && vB b) || (sB a && openB a && tB b)

theorem lB_not_sB {a : Int} (h : lB a = true) : sB a = false := by
  rw [lB_iff] at h
  rw [← Bool.not_eq_true, sB_iff]; omega
theorem ret_two {a b : Int} {x y : Bool} (h : a = b) (h2 : x = y) : Ending.returned (.tuple #[.int .i32 a, .bool x]) = .returned (.tuple #[.int .i32 b, .bool y]) := by rw [h, h2]

set_option maxHeartbeats 400000 in
theorem proper_any (a b : Int) (w : World) :
    Calls Try.prog 11 #[.int .i32 a, .int .i32 b] w fun e w' => e = .returned (.bool (properB a b)) ∧ w' = w := by
  cases el : lB a
  · cases es : sB a
    · go_enter Try.func11, Try.ntmps11
      go_wp2_with (first
        | (go_at_call 15; refine (isL_any _ _).mono ?_; rintro e w' ⟨rfl, rfl⟩)
        | (go_at_call 16; refine (isV_any _ _).mono ?_; rintro e w' ⟨rfl, rfl⟩)
        | (go_at_call 7; refine (isS_any _ _).mono ?_; rintro e w' ⟨rfl, rfl⟩)
        | (go_at_call 17; refine (isT_any _ _).mono ?_; rintro e w' ⟨rfl, rfl⟩))
      go_ret
      exact ⟨ret_bool (by simp [properB, el, es]), rfl⟩
    · have hb := (sB_iff a).1 es
      obtain ⟨hb1, hb2⟩ := hb
      cases eo : openB a
      all_goals
        have eo' : ((a - 44032) % 28 == 0) = openB a := rfl
        rw [eo] at eo'
        go_enter Try.func11, Try.ntmps11
        go_wp2_with (first
          | (go_at_call 15; refine (isL_any _ _).mono ?_; rintro e w' ⟨rfl, rfl⟩)
          | (go_at_call 16; refine (isV_any _ _).mono ?_; rintro e w' ⟨rfl, rfl⟩)
          | (go_at_call 7; refine (isS_any _ _).mono ?_; rintro e w' ⟨rfl, rfl⟩)
          | (go_at_call 17; refine (isT_any _ _).mono ?_; rintro e w' ⟨rfl, rfl⟩))
        go_ret
        exact ⟨ret_bool (by simp [properB, el, es, eo]), rfl⟩
  · have es := lB_not_sB el
    cases ev : vB b
    all_goals
      go_enter Try.func11, Try.ntmps11
      go_wp2_with (first
        | (go_at_call 15; refine (isL_any _ _).mono ?_; rintro e w' ⟨rfl, rfl⟩)
        | (go_at_call 16; refine (isV_any _ _).mono ?_; rintro e w' ⟨rfl, rfl⟩)
        | (go_at_call 7; refine (isS_any _ _).mono ?_; rintro e w' ⟨rfl, rfl⟩)
        | (go_at_call 17; refine (isT_any _ _).mono ?_; rintro e w' ⟨rfl, rfl⟩))
      go_ret
      exact ⟨ret_bool (by simp [properB, el, es, ev]), rfl⟩

/-- What HangulCompose computes. -/
def composeN (a b : Int) : Int := if lB a && vB b then 44032 + ((a - 4352) * 21 + (b - 4449)) * 28 else if properB a b then a + (b - 4519) else 0

set_option maxHeartbeats 400000 in
theorem compose_any (a b : Int) (w : World) :
    Calls Try.prog 10 #[.int .i32 a, .int .i32 b] w fun e w' => e = .returned (.tuple #[.int .i32 (composeN a b), .bool (properB a b)]) ∧ w' = w := by
  cases el : lB a
  · cases es : sB a
    · go_enter Try.func10, Try.ntmps10
      go_wp2_with (first
        | (go_at_call 12; refine (isLeading_any _ _).mono ?_; rintro e w' ⟨rfl, rfl⟩)
        | (go_at_call 13; refine (isVowel_any _ _).mono ?_; rintro e w' ⟨rfl, rfl⟩)
        | (go_at_call 9; refine (isSyllable_any _ _).mono ?_; rintro e w' ⟨rfl, rfl⟩)
        | (go_at_call 14; refine (isTrailing_any _ _).mono ?_; rintro e w' ⟨rfl, rfl⟩))
      go_ret2
      exact ⟨ret_two (by simp [composeN, properB, el, es]) (by simp [properB, el, es]), rfl⟩
    · have hb := (sB_iff a).1 es
      obtain ⟨hb1, hb2⟩ := hb
      cases eo : openB a
      · have eo' : ((a - 44032) % 28 == 0) = openB a := rfl
        rw [eo] at eo'
        go_enter Try.func10, Try.ntmps10
        go_wp2_with (first
          | (go_at_call 12; refine (isLeading_any _ _).mono ?_; rintro e w' ⟨rfl, rfl⟩)
          | (go_at_call 13; refine (isVowel_any _ _).mono ?_; rintro e w' ⟨rfl, rfl⟩)
          | (go_at_call 9; refine (isSyllable_any _ _).mono ?_; rintro e w' ⟨rfl, rfl⟩)
          | (go_at_call 14; refine (isTrailing_any _ _).mono ?_; rintro e w' ⟨rfl, rfl⟩))
        go_ret2
        exact ⟨ret_two (by simp [composeN, properB, el, es, eo]) (by simp [properB, el, es, eo]), rfl⟩
      · have eo' : ((a - 44032) % 28 == 0) = openB a := rfl
        rw [eo] at eo'
        cases et : tB b
        · go_enter Try.func10, Try.ntmps10
          go_wp2_with (first
            | (go_at_call 12; refine (isLeading_any _ _).mono ?_; rintro e w' ⟨rfl, rfl⟩)
            | (go_at_call 13; refine (isVowel_any _ _).mono ?_; rintro e w' ⟨rfl, rfl⟩)
            | (go_at_call 9; refine (isSyllable_any _ _).mono ?_; rintro e w' ⟨rfl, rfl⟩)
            | (go_at_call 14; refine (isTrailing_any _ _).mono ?_; rintro e w' ⟨rfl, rfl⟩))
          go_ret2
          exact ⟨ret_two (by simp [composeN, properB, el, es, eo, et]) (by simp [properB, el, es, eo, et]), rfl⟩
        · obtain ⟨ht1, ht2⟩ := (tB_iff b).1 et
          go_enter Try.func10, Try.ntmps10
          go_wp2_with (first
            | (go_at_call 12; refine (isLeading_any _ _).mono ?_; rintro e w' ⟨rfl, rfl⟩)
            | (go_at_call 13; refine (isVowel_any _ _).mono ?_; rintro e w' ⟨rfl, rfl⟩)
            | (go_at_call 9; refine (isSyllable_any _ _).mono ?_; rintro e w' ⟨rfl, rfl⟩)
            | (go_at_call 14; refine (isTrailing_any _ _).mono ?_; rintro e w' ⟨rfl, rfl⟩))
          go_ret2
          exact ⟨ret_two (by simp [composeN, properB, el, es, eo, et]) (by simp [properB, el, es, eo, et]), rfl⟩
  · have es := lB_not_sB el
    obtain ⟨hl1, hl2⟩ := (lB_iff a).1 el
    cases ev : vB b
    · go_enter Try.func10, Try.ntmps10
      go_wp2_with (first
        | (go_at_call 12; refine (isLeading_any _ _).mono ?_; rintro e w' ⟨rfl, rfl⟩)
        | (go_at_call 13; refine (isVowel_any _ _).mono ?_; rintro e w' ⟨rfl, rfl⟩)
        | (go_at_call 9; refine (isSyllable_any _ _).mono ?_; rintro e w' ⟨rfl, rfl⟩)
        | (go_at_call 14; refine (isTrailing_any _ _).mono ?_; rintro e w' ⟨rfl, rfl⟩))
      go_ret2
      exact ⟨ret_two (by simp [composeN, properB, el, es, ev]) (by simp [properB, el, es, ev]), rfl⟩
    · obtain ⟨hv1, hv2⟩ := (vB_iff b).1 ev
      go_enter Try.func10, Try.ntmps10
      go_wp2_with (first
        | (go_at_call 12; refine (isLeading_any _ _).mono ?_; rintro e w' ⟨rfl, rfl⟩)
        | (go_at_call 13; refine (isVowel_any _ _).mono ?_; rintro e w' ⟨rfl, rfl⟩)
        | (go_at_call 9; refine (isSyllable_any _ _).mono ?_; rintro e w' ⟨rfl, rfl⟩)
        | (go_at_call 14; refine (isTrailing_any _ _).mono ?_; rintro e w' ⟨rfl, rfl⟩))
      go_ret2
      exact ⟨ret_two (by simp [composeN, el, ev]) (by simp [properB, el, ev]), rfl⟩

theorem compose_sB {a b : Int} (h : properB a b = true) : sB (composeN a b) = true := by
  rw [sB_iff]
  unfold composeN
  by_cases hl : (lB a && vB b) = true
  · rw [if_pos hl]
    simp only [Bool.and_eq_true] at hl
    have h1 := (lB_iff a).1 hl.1
    have h2 := (vB_iff b).1 hl.2
    omega
  · rw [if_neg hl, if_pos h]
    have hf : (lB a && vB b) = false := by simpa using hl
    rw [properB, hf, Bool.false_or] at h
    simp only [Bool.and_eq_true] at h
    have h1 := (sB_iff a).1 h.1.1
    have h2 := (tB_iff b).1 h.2
    have h3 : (a - 44032) % 28 = 0 := by simpa [openB] using h.1.2
    omega
theorem compose_zero {a b : Int} (h : properB a b = false) : composeN a b = 0 := by
  have h' := h
  simp only [properB, Bool.or_eq_false_iff] at h'
  unfold composeN
  rw [h'.1, h]
  rfl

set_option maxHeartbeats 400000 in
/-- hangulSilentAt is true at every pair. -/
theorem silent_any (a b : Int) (w : World) :
    Calls Try.prog 8 #[.int .i32 a, .int .i32 b] w fun e w' => e = .returned (.bool true) ∧ w' = w := by
  cases ep : properB a b
  · have hz := compose_zero ep
    go_enter Try.func8, Try.ntmps8
    go_wp2_with (first
      | (go_at_call 10; refine (compose_any _ _ _).mono ?_; rintro e w' ⟨rfl, rfl⟩)
      | (go_at_call 11; refine (proper_any _ _ _).mono ?_; rintro e w' ⟨rfl, rfl⟩)
      | (go_at_call 7; refine (isS_any _ _).mono ?_; rintro e w' ⟨rfl, rfl⟩))
    go_ret
    exact ⟨rfl, rfl⟩
  · have hz := compose_sB ep
    go_enter Try.func8, Try.ntmps8
    go_wp2_with (first
      | (go_at_call 10; refine (compose_any _ _ _).mono ?_; rintro e w' ⟨rfl, rfl⟩)
      | (go_at_call 11; refine (proper_any _ _ _).mono ?_; rintro e w' ⟨rfl, rfl⟩)
      | (go_at_call 7; refine (isS_any _ _).mono ?_; rintro e w' ⟨rfl, rfl⟩))
    go_ret
    exact ⟨rfl, rfl⟩

/-- How many jamo HangulDecompose gives. -/
def decN (a : Int) : Int := if sB a then (if (a - 44032) % 28 == 0 then 2 else 3) else 0

set_option maxHeartbeats 400000 in
theorem decompose_any (a : Int) (w : World) :
    Calls Try.prog 6 #[.int .i32 a] w fun e w' => ∃ l v t : Int, e = .returned (.tuple #[.int .i32 l, .int .i32 v, .int .i32 t, .int .i64 (decN a)]) ∧ (sB a = false → l = 0 ∧ v = 0 ∧ t = 0) ∧ w' = w := by
  cases es : sB a
  · go_enter Try.func6, Try.ntmps6
    go_wp2_with (go_at_call 9; refine (isSyllable_any _ _).mono ?_; rintro e w' ⟨rfl, rfl⟩)
    exact bodyPost_ret (v := .tuple #[.int .i32 0, .int .i32 0, .int .i32 0, .int .i64 0]) (by simp [results, Try.results6, go_sem]) rfl ⟨0, 0, 0, by simp [decN, es], fun _ => ⟨rfl, rfl, rfl⟩, rfl⟩
  · obtain ⟨hb1, hb2⟩ := (sB_iff a).1 es
    go_enter Try.func6, Try.ntmps6
    go_wp2_with (go_at_call 9; refine (isSyllable_any _ _).mono ?_; rintro e w' ⟨rfl, rfl⟩)
    · exact bodyPost_ret (v := .tuple #[.int .i32 (4352 + (a - 44032) / 28 / 21), .int .i32 (4449 + (a - 44032) / 28 % 21), .int .i32 0, .int .i64 2]) (by simp [results, Try.results6, go_sem]) rfl
        ⟨_, _, _, by simp [decN, es, ‹((a - 44032) % 28 == 0) = true›]; exact ⟨rfl, rfl, rfl⟩, fun h => by simp at h, rfl⟩
    · exact bodyPost_ret (v := .tuple #[.int .i32 (4352 + (a - 44032) / 28 / 21), .int .i32 (4449 + (a - 44032) / 28 % 21), .int .i32 (4519 + (a - 44032) % 28), .int .i64 3]) (by simp [results, Try.results6, go_sem]) rfl
        ⟨_, _, _, by simp [decN, es, ‹((a - 44032) % 28 == 0) = false›]; exact ⟨rfl, rfl, rfl⟩, fun h => by simp at h, rfl⟩
end Go.Proofs.Qxb6500852a.HangulA
