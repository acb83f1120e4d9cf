/-
  What observe asks, at an entry of a sound arena.
-/
import Derived.Test.Qxb6500847aGreatDoorObB0
import Derived.Test.Qxb6500847aGreatDoorObB1
import Derived.Test.Qxb6500847aGreatDoorObB2
import Derived.Test.Qxb6500847aGreatDoorObB3
import Derived.Test.Qxb6500847aGreatDoorObB4
import Derived.Test.Qxb6500847aGreatDoorObB5
import Derived.Test.Qxb6500847aGreatDoorObG
import Derived.Test.Qxb6500847aGreatDoorOxQb
import Derived.Test.Qxb6500847aGreatDoorOxQf
import Derived.Test.Qxb6500847aGreatDoorMdH
namespace Go.Proofs.Qxb6500847aGreatDoor.Os
open Go.RowKit FloorA
set_option maxRecDepth 100000
section
variable {A : Nat} {rb sb : Nat → Nat} {s : Av} {tl : Nat → List Int} {ws : Nat → Nat → Nat → Int} {w : World} {L : Nat → List Nat} {n : Nat}
theorem typed_reg (i : Nat) (g : Int) (A : Nat) (w : World) :
    Calls Tryz.prog 93 #[.pointer (some ⟨A, 0, none⟩), .agg #[.int .u16 (i : Int), .int .u32 g], .int .u8 1] w fun e w' => ∃ v, e = .returned v ∧ IsU w.heap.size w' v [] ∧ Below w.heap.size w w' := by
  go_enter Tryz.func93, Tryz.ntmps93
  go_wp2_with fail
  go_ret
  exact ⟨_, rfl, IsU.nil _ _, alloc_below _⟩
theorem typedWords_x (h : Ms w A rb sb s tl ws) (hS : Sd s tl ws L n) (hK : Kd w) (kl : 1 < w.heap.size) {i : Nat} {g : Int} (hl : Live s i g) :
    Calls Tryz.prog 93 #[.pointer (some ⟨A, 0, none⟩), .agg #[.int .u16 (i : Int), .int .u32 g], .int .u8 (s.hd i).typ] w fun e w' => ∃ v, e = .returned v ∧ IsU w.heap.size w' v (ob s ws i).wds ∧ Below w.heap.size w w' := by
  obtain ⟨k, ek, k7, _⟩ := hS.iv.ge.typ i hl.1
  have k0 : k ≠ 0 := fun e => hl.2.2.1 (by rw [ek, e]; rfl)
  by_cases k1 : k = 1
  · have e1 : (s.hd i).typ = 1 := by rw [ek, k1]; rfl
    have ew : (ob s ws i).wds = [] := by rw [ob_at _ _ hl.1]; show wdsOf _ _ = _; unfold wdsOf; rw [e1]; rfl
    rw [ew, e1]
    exact typed_reg i g A w
  · obtain ⟨t, rfl⟩ : ∃ t, k = t + 2 := ⟨k - 2, by omega⟩
    obtain ⟨r, er, r1, _⟩ := hS.iv.tb.row i (t + 2) hl.1 (by omega) k7 ek
    rw [wds_obj hl.1 ek er, ek]
    have t6 : t < 6 := by omega
    match t, t6, ek, r1 with
    | 0, _, ek, r1 => exact typed0 h hS.iv hS.wr hK kl hl ek er r1
    | 1, _, ek, r1 => exact typed1 h hS.iv hS.wr hK kl hl ek er r1
    | 2, _, ek, r1 => exact typed2 h hS.iv hS.wr hK kl hl ek er r1
    | 3, _, ek, r1 => exact typed3 h hS.iv hS.wr hK kl hl ek er r1
    | 4, _, ek, r1 => exact typed4 h hS.iv hS.wr hK kl hl ek er r1
    | 5, _, ek, r1 => exact typed5 h hS.iv hS.wr hK kl hl ek er r1
theorem gen_at (hA : Am w A s) (ws : Nat → Nat → Nat → Int) {i : Nat} (hi : i < 320) :
    Calls Tryz.prog 59 #[.pointer (some ⟨A, 0, none⟩), .int .u16 (i : Int)] w fun e w' => e = .returned (.tuple #[.int .u32 (ob s ws i).gen, .bool (decide ((ob s ws i).typ ≠ 0)), .nilIface]) ∧ Below w.heap.size w w' := by
  refine (Generation_x hA ws i).mono ?_
  rintro e w' (⟨v, c, hX, _⟩ | ⟨⟨g, b, hX, rfl⟩, hb⟩)
  · unfold genX at hX
    rw [if_pos hi] at hX
    unfold bad at hX
    injection hX with _ _ h3
    cases h3
  · unfold genX at hX
    rw [if_pos hi] at hX
    injection hX with _ _ h3
    injection h3 with h4 h5
    injection h5 with h5 _
    refine ⟨?_, hb⟩
    rw [h4]
    have e : b = decide ((ob s ws i).typ ≠ 0) := by
      by_cases q : (ob s ws i).typ ≠ 0
      · rw [if_pos q] at h5
        rw [decide_eq_true q]
        cases b
        · simp at h5
        · rfl
      · rw [if_neg q] at h5
        rw [decide_eq_false q]
        cases b
        · rfl
        · simp at h5
    rw [e]
theorem live_iff (hS : Sd s tl ws L n) {i : Nat} (hi : i < 320) : Live s i (ob s ws i).gen ↔ (ob s ws i).typ ≠ 0 := by
  obtain ⟨g, eg, g1, _⟩ := hS.num.gen i hi
  rw [ob_at _ _ hi] at eg ⊢
  simp only at eg ⊢
  exact ⟨fun q => q.2.2.1, fun q => ⟨hi, by omega, q, rfl⟩⟩
theorem valid_at (hA : Am w A s) (hS : Sd s tl ws L n) {i : Nat} (hi : i < 320) :
    Calls Tryz.prog 23 #[.pointer (some ⟨A, 0, none⟩), .agg #[.int .u16 (i : Int), .int .u32 (ob s ws i).gen]] w fun e w' => e = .returned (.bool (decide ((ob s ws i).typ ≠ 0))) ∧ Below w.heap.size w w' := by
  refine (valid_walk hA i (ob s ws i).gen).mono ?_
  rintro e w' ⟨rfl, hb⟩
  exact ⟨by rw [show decide (Live s i (ob s ws i).gen) = decide ((ob s ws i).typ ≠ 0) from decide_eq_decide.2 (live_iff hS hi)], hb⟩
theorem type_at (hA : Am w A s) (hS : Sd s tl ws L n) {i : Nat} (hi : i < 320) :
    Calls Tryz.prog 91 #[.pointer (some ⟨A, 0, none⟩), .agg #[.int .u16 (i : Int), .int .u32 (ob s ws i).gen]] w fun e w' => e = .returned (.int .u8 (ob s ws i).typ) ∧ Below w.heap.size w w' := by
  refine (TypeOf_walk hA i (ob s ws i).gen).mono ?_
  rintro e w' ⟨rfl, hb⟩
  refine ⟨?_, hb⟩
  have e2 : (ob s ws i).typ = (s.hd i).typ := by rw [ob_at _ _ hi]
  by_cases q : (ob s ws i).typ = 0
  · rw [if_neg (fun z => (live_iff hS hi).1 z q), q]
  · rw [if_pos ((live_iff hS hi).2 q), e2]
/-- The Info of a live entry. -/
def infM (M : Nat → En) (i : Nat) : List Value := inf7 (i : Int) (M i).gen (M i).typ (M i).bas (M i).siz ((parR M i).1 : Int) (parR M i).2
theorem look_at (h : Ms w A rb sb s tl ws) (hS : Sd s tl ws L n) {i : Nat} (hi : i < 320) (ht : (ob s ws i).typ ≠ 0) :
    Calls Tryz.prog 25 #[.pointer (some ⟨A, 0, none⟩), .agg #[.int .u16 (i : Int), .int .u32 (ob s ws i).gen]] w fun e w' => e = .returned (.tuple #[.agg (infM (ob s ws) i).toArray, .nilIface]) ∧ Below w.heap.size w w' := by
  refine (Lookup_walk h hS.iv i (ob s ws i).gen).mono ?_
  rintro e w' (⟨hn, _⟩ | ⟨hl, rfl, hb⟩)
  · exact absurd ((live_iff hS hi).2 ht) hn
  · refine ⟨?_, hb⟩
    have hp := parR_eq (ws := ws) hS.iv hi hl.2.2.1
    injection hp with h1 h2
    unfold infM infS
    rw [← h1, ← h2, ob_at _ _ hi]
theorem par_live (hS : Sd s tl ws L n) {i : Nat} (hi : i < 320) (ht : (ob s ws i).typ ≠ 0) (hp : (ob s ws i).par ≠ 65535) : ∃ p : Nat, p < 320 ∧ (ob s ws i).par = (p : Int) ∧ parR (ob s ws) i = (p, (ob s ws p).gen) ∧ (ob s ws p).typ ≠ 0 ∧ (ob s ws p).gen ≠ 0 := by
  have e : ob s ws i = _ := ob_at s ws hi
  have ht' : (s.hd i).typ ≠ 0 := by rw [e] at ht; exact ht
  have hp' : (s.hd i).par ≠ 65535 := by rw [e] at hp; exact hp
  rcases hS.iv.par hi ht' with q | ⟨p, hr, q⟩
  · exact absurd q hp'
  · have ep : (ob s ws i).par = (p : Int) := by rw [e]; exact q
    obtain ⟨gg, eg, g1, _⟩ := hS.num.gen p hr.2.1
    refine ⟨p, hr.2.1, ep, ?_, ?_, by omega⟩
    · unfold parR
      rw [if_neg hp, ep, Int.toNat_natCast]
    · rw [ob_at _ _ hr.2.1]
      show (s.hd p).typ ≠ 0
      rw [hr.2.2]
      decide
end
end Go.Proofs.Qxb6500847aGreatDoor.Os
