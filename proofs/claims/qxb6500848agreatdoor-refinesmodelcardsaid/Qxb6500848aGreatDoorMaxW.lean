/-
  Max.
-/
import Derived.Test.Qxb6500848aGreatDoorMintC
namespace Go.Proofs.Qxb6500848aGreatDoor
open Go.RowKit Pl Go.Shelf
set_option maxRecDepth 100000

theorem len64_walk (x : Nat) (hx : x < 2 ^ 64) (w : World) : Calls Tryz.prog 78 #[.int .u64 x] w fun e w' => ∃ n : Nat, n ≤ 64 ∧ e = .returned (.int .i64 n) ∧ w' = w := by
  have h := Any.bits_Len64 (P := Tryz.prog) { SlLaysF0.n15.bits (P := Tryz.prog) { Tryz.lSortF with } with } (x : Int) w (by omega) (by omega)
  refine (show Calls Tryz.prog 78 #[.int .u64 x] w _ from h).mono ?_
  rintro e w' ⟨rfl, rfl⟩
  exact ⟨_, Lib.bitLen_le x 64 (by omega) (by omega), rfl, rfl⟩

set_option maxHeartbeats 2000000 in
theorem max_walk {X : Nat → Prop} {w : World} {sv : Value} {l : List Nat} (h : Words X w sv l) (hl : Cl l) (hn : ∃ b ∈ l, b ≠ 0) :
    Calls Tryz.prog 24 #[sv] w fun e w' => ∃ m : Int, e = .returned (.int .i64 m) ∧ w' = w := by
  have hl1 := hl.1
  obtain ⟨ad, cap, rfl, _, _, h3⟩ := h
  obtain ⟨g, o, rfl, _, hc⟩ := h3 (fun e => by rw [e] at hl1; cases hl1)
  have HC := hideIt hc
  have Hl := hideIt hl
  obtain ⟨b0, hb0, hne⟩ := hn
  obtain ⟨i0, hi0, rfl⟩ := List.getElem_of_mem hb0
  have Hne := hideIt hne
  clear h3 hc hl hb0 hne
  rw [hl1]
  go_enter Tryz.func24, Tryz.ntmps24
  go_wp2
  go_loopw [3] (fun i wr => ∃ k : Nat, k < 3072 ∧ i0 ≤ k ∧ i = .int .i64 k ∧ wr = w) (fun i _ => (intOf i).toNat)
  case atStart => exact ⟨3071, by omega, by omega, rfl, rfl⟩
  case round =>
    obtain ⟨k, hk, hik, rfl, rfl⟩ := hrel
    have hkl : k < l.length := by omega
    have hk' : (k : Int) < 3072 := by omega
    have c0 := HC.out k hkl
    have hb := Hl.out.2 _ (List.getElem_mem hkl)
    by_cases h0 : l[k] = 0
    · have hlt : i0 < k := by
        refine Nat.lt_of_le_of_ne hik fun e => ?_
        subst e
        exact Hne.out h0
      rw [h0] at c0
      go_wp2
      go_roundw
      case rel => exact ⟨k - 1, by omega, by omega, by go_num, trivial⟩
      case measure => simp [intOf]; omega
    · generalize l[k] = x at *
      have e0' : ((x : Int) == 0) = false := by rw [beq_eq_false_iff_ne]; omega
      go_wp2_with (go_at_call 78; refine (len64_walk x hb _).mono ?_; rintro e w1 ⟨n, hn, rfl, rfl⟩)
      go_ret
      exact ⟨_, rfl, rfl⟩
end Go.Proofs.Qxb6500848aGreatDoor
