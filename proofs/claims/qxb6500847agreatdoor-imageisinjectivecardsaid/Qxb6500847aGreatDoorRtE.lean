/-
  A retype that succeeds finds room.
-/
import Derived.Test.Qxb6500847aGreatDoorRtC
import Derived.Test.Qxb6500847aGreatDoorOxSx
import Derived.Test.Qxb6500847aGreatDoorMdRa
namespace Go.Proofs.Qxb6500847aGreatDoor.Os
open Go.RowKit FloorA
set_option maxRecDepth 100000
section
variable {s : Av} {tl : Nat → List Int} {ws : Nat → Nat → Nat → Int} {L : Nat → List Nat} {n i t bt k : Nat} {g : Int}
theorem plM_zero (h : plM (ob s ws) i g t bt = 0) : Live s i g ∧ (s.hd i).typ = 1 ∧ szC t bt = 0 := by
  rw [plM_eq] at h
  unfold plC at h
  by_cases q : Live s i g ∧ (s.hd i).typ = 1
  · rw [if_pos q] at h
    exact ⟨q.1, q.2, h⟩
  · rw [if_neg q] at h
    by_cases q2 : Live s i g
    · rw [if_pos q2] at h
      cases h
    · rw [if_neg q2] at h
      exact absurd h (stale_ne i g)
theorem ret_room (h : Sd s tl ws L n) (hc : (retX (ob s ws) i g t bt k).1.code = 0) : szC t bt = 0 ∧ IsReg s i ∧ k ≤ (spr (ob s ws) (loT t) (hiT t)).length ∧ ∃ F : Nat, (ob s ws i).bas + (ob s ws i).siz - topM (ob s ws) i = (F : Int) ∧ F ≤ 281474976710656 ∧ k ≤ F / 2 ^ szQ t bt := by
  unfold retX at hc
  by_cases h1 : plM (ob s ws) i g t bt ≠ 0
  · rw [if_pos h1] at hc
    exact absurd hc h1
  · rw [if_neg h1] at hc
    obtain ⟨hl, ht, hz⟩ := plM_zero (Decidable.not_not.1 h1)
    obtain ⟨kk, ek, k7, kr⟩ := h.iv.ge.typ i hl.1
    have hreg : IsReg s i := ⟨(kr (by omega)).1 (by omega), hl.1, ht⟩
    by_cases h2 : k < 1 ∨ 32 < k
    · rw [if_pos h2] at hc
      exact absurd (show (6 : Int) = 0 from hc) (by decide)
    · rw [if_neg h2] at hc
      by_cases h3 : spM (ob s ws) i t bt < k
      · rw [if_pos h3] at hc
        exact absurd (show (7 : Int) = 0 from hc) (by decide)
      · rw [if_neg h3] at hc
        by_cases h4 : (spr (ob s ws) (loT t) (hiT t)).length < k
        · rw [if_pos h4] at hc
          exact absurd (show (8 : Int) = 0 from hc) (by decide)
        · obtain ⟨T, E, eT, eE, hTE, hE⟩ := h.ends hreg
          refine ⟨hz, hreg, by omega, E - T, by omega, by omega, ?_⟩
          have hp : 0 < 2 ^ szQ t bt := Nat.pos_of_ne_zero (by simp)
          unfold spM stM at h3
          rw [eT, eE, Int.toNat_natCast, Int.toNat_natCast, spN_lt hp (by omega)] at h3
          have ha := (al_pos (x := T) hp).1
          rw [Nat.le_div_iff_mul_le hp]
          omega
/-- A refused step leaves the state. -/
def KeepB (M : Nat → En) (x : Rs × (Nat → En)) : Prop := x.1.code = 0 ∨ x.2 = M
theorem KeepB.ite {M : Nat → En} {p : Prop} {hp : Decidable p} {x y : Rs × (Nat → En)} (h1 : KeepB M x) (h2 : KeepB M y) : KeepB M (if p then x else y) := by
  by_cases h : p
  · rw [if_pos h]; exact h1
  · rw [if_neg h]; exact h2
theorem KeepB.iteC {M : Nat → En} {p : Prop} {hp : Decidable p} {x y : Int × (Nat → En)} (h1 : KeepB M (cX x)) (h2 : KeepB M (cX y)) : KeepB M (cX (if p then x else y)) := by
  by_cases h : p
  · rw [if_pos h]; exact h1
  · rw [if_neg h]; exact h2
theorem stepX_keep (M : Nat → En) (v : OpV) : KeepB M (stepX M v) := by
  unfold stepX
  split
  · unfold addX
    refine KeepB.ite (Or.inr rfl) (KeepB.ite (Or.inr rfl) ?_)
    split
    · exact Or.inr rfl
    · exact Or.inl rfl
  · exact KeepB.ite (Or.inr rfl) (KeepB.ite (Or.inr rfl) (KeepB.ite (Or.inr rfl) (KeepB.ite (Or.inr rfl) (KeepB.ite (Or.inr rfl) (Or.inl rfl)))))
  · exact Or.inr rfl
  · exact KeepB.iteC (Or.inr rfl) (KeepB.iteC (Or.inr rfl) (Or.inl rfl))
  · exact KeepB.ite (Or.inr rfl) (Or.inl rfl)
  · exact KeepB.iteC (Or.inr rfl) (KeepB.iteC (Or.inr rfl) (KeepB.iteC (Or.inr rfl) (Or.inl rfl)))
  all_goals first
    | exact Or.inr rfl
    | exact KeepB.iteC (Or.inr rfl) (Or.inl rfl)
    | exact KeepB.iteC (Or.inr rfl) (KeepB.iteC (Or.inr rfl) (KeepB.iteC (Or.inl rfl) (Or.inr rfl)))
    | exact KeepB.iteC (Or.inr rfl) (KeepB.iteC (Or.inr rfl) (KeepB.iteC (Or.inr rfl) (KeepB.iteC (Or.inr rfl) (Or.inl rfl))))
theorem stepX_bad {M : Nat → En} {v : OpV} (h : (stepX M v).1.code ≠ 0) : (stepX M v).2 = M := (stepX_keep M v).resolve_left h
/-- The entries that Stats counts are those that Retype looks for. -/
theorem lo_reg : loT 1 = 256 ∧ hiT 1 = 320 := ⟨rfl, rfl⟩
theorem lo_obj (h : t ≠ 1) : loT t = 0 ∧ hiT t = 256 := by
  unfold loT hiT
  rw [if_neg h, if_neg h]
  exact ⟨rfl, rfl⟩
end
end Go.Proofs.Qxb6500847aGreatDoor.Os
