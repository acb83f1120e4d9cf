/-
  The walk of HangulIsIdentityOutsideOnScript: a loop over the script; in each round a copy of the op and a small slice are made.
-/
import Derived.Test.Qxb6500852aHangulA
import Derived.ProofKit
import Derived.Below
namespace Go.Proofs.Qxb6500852a.HangulA
open Go.RowKit

set_option maxHeartbeats 400000 in
theorem small_any (a : Option Addr) (n c : Nat) (w : World) :
    Calls Try.prog 5 #[.slice a n c] w fun e w' => e = .returned (.bool (decide ((n : Int) ≤ 65536))) ∧ w' = w := by
  by_cases h : (65536 : Int) < (n : Int)
  · go_enter Try.func5, Try.ntmps5
    go_wp2
    go_ret
    exact ⟨ret_bool (by simp; omega), rfl⟩
  · go_enter Try.func5, Try.ntmps5
    go_wp2
    go_ret
    exact ⟨ret_bool (by simp), rfl⟩

theorem dec_sB (a : Int) : (decN a != 0) = sB a := by
  unfold decN
  cases h : sB a
  · rfl
  · by_cases h2 : ((a - 44032) % 28 == 0) = true
    · simp [h2]
    · simp [h2]

theorem cell_lt {w : World} {p : Addr} {v : Value} (h : w.cell? p = some v) : p.block < w.heap.size := by
  by_cases hc : p.block < w.heap.size
  · exact hc
  · simp [World.cell?, hc] at h

set_option maxHeartbeats 400000 in
theorem script_walk (a : Option Addr) (b off n c : Nat) (w : World) (hn : n ≤ maxLen) (ha : 0 < n → a = some ⟨b, off, none⟩)
    (hc : ∀ i, i < n → ∃ x y z : Int, w.cell? ⟨b, off + i * 3, none⟩ = some (.int .u8 x) ∧ w.cell? ⟨b, off + i * 3 + 1, none⟩ = some (.int .i32 y) ∧ w.cell? ⟨b, off + i * 3 + 2, none⟩ = some (.int .i32 z)) :
    Calls Try.prog 3 #[.slice a n c] w fun e w' => e = .returned (.bool true) ∧ Below w.heap.size w w' := by
  unfold maxLen at hn
  have HC : Hid (∀ i, i < n → ∃ x y z : Int, w.cell? ⟨b, off + i * 3, none⟩ = some (.int .u8 x) ∧ w.cell? ⟨b, off + i * 3 + 1, none⟩ = some (.int .i32 y) ∧ w.cell? ⟨b, off + i * 3 + 2, none⟩ = some (.int .i32 z)) := hc
  have HA : Hid (0 < n → a = some ⟨b, off, none⟩) := ha
  clear hc ha
  by_cases hs : (n : Int) ≤ 65536
  · have hs' : decide ((n : Int) ≤ 65536) = true := by simpa using hs
    go_enter Try.func3, Try.ntmps3
    go_wp2_with (go_at_call 5; refine (small_any _ _ _ _).mono ?_; rintro e w1 ⟨rfl, hw1⟩; subst w1)
    go_loopw [16] (fun i w' => ∃ k : Nat, k ≤ n ∧ i = .int .i64 k ∧ Below w.heap.size w w') (fun i _ => n - (intOf i).toNat)
    case atStart => exact ⟨0, by omega, rfl, Below.refl _ _⟩
    case round =>
      obtain ⟨k, hk, rfl, hb⟩ := hrel
      by_cases hlt : k < n
      · obtain ⟨x, y, z, g1, g2, g3⟩ := HC.out k hlt
        obtain rfl := HA.out (by omega)
        have hlb : b < w.heap.size := cell_lt g1
        have h1 : wr.cell? ⟨b, off + k * 3, none⟩ = some (.int .u8 x) := by rw [hb.cell hlb]; exact g1
        have h2 : wr.cell? ⟨b, off + k * 3 + 1, none⟩ = some (.int .i32 y) := by rw [hb.cell hlb]; exact g2
        have h3 : wr.cell? ⟨b, off + k * 3 + 2, none⟩ = some (.int .i32 z) := by rw [hb.cell hlb]; exact g3
        clear g1 g2 g3
        have hsz := hb.size
        go_wp2_with fail
        go_loop [26] (fun i => ∃ j : Nat, j ≤ 2 ∧ i = .int .i64 j) (fun i => 2 - (intOf i).toNat)
        case atStart => exact ⟨0, by omega, rfl⟩
        case round =>
          obtain ⟨j, hj, rfl⟩ := hrel
          have hj3 : j = 0 ∨ j = 1 ∨ j = 2 := by omega
          rcases hj3 with rfl | rfl | rfl
          · have hd := dec_sB y
            cases es : sB y
            all_goals
              rw [es] at hd
              go_wp2_with (first
                | (go_at_call 6; refine (decompose_any _ _).mono ?_; rintro e w1 ⟨l, v, t, rfl, hz, hw1⟩; subst w1; clear hz)
                | (go_at_call 7; refine (isS_any _ _).mono ?_; rintro e w1 ⟨rfl, hw1⟩; subst w1))
              go_round
              case rel => exact ⟨1, by omega, by go_num⟩
              case measure => simp [intOf]
          · have hd := dec_sB z
            cases es : sB z
            all_goals
              rw [es] at hd
              go_wp2_with (first
                | (go_at_call 6; refine (decompose_any _ _).mono ?_; rintro e w1 ⟨l, v, t, rfl, hz, hw1⟩; subst w1; clear hz)
                | (go_at_call 7; refine (isS_any _ _).mono ?_; rintro e w1 ⟨rfl, hw1⟩; subst w1))
              go_round
              case rel => exact ⟨2, by omega, by go_num⟩
              case measure => simp [intOf]
          · go_wp2_with (go_at_call 8; refine (silent_any _ _ _).mono ?_; rintro e w1 ⟨rfl, hw1⟩; subst w1)
            go_roundw
            case rel => exact ⟨k + 1, by omega, by go_num, ((hb.alloc hsz _).alloc (by simp; omega) _)⟩
            case measure => simp [intOf]; omega
      · go_wp2
        go_ret
        exact ⟨rfl, hb⟩
  · have hs' : decide ((n : Int) ≤ 65536) = false := by simpa using hs
    go_enter Try.func3, Try.ntmps3
    go_wp2_with (go_at_call 5; refine (small_any _ _ _ _).mono ?_; rintro e w1 ⟨rfl, hw1⟩; subst w1)
    go_ret
    exact ⟨rfl, Below.refl _ _⟩
end Go.Proofs.Qxb6500852a.HangulA
