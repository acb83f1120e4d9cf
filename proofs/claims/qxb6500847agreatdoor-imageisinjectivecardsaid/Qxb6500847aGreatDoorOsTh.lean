/-
  typedStore.
-/
import Derived.Test.Qxb6500847aGreatDoorOsTf1a
import Derived.Test.Qxb6500847aGreatDoorOsTf1b
import Derived.Test.Qxb6500847aGreatDoorOsTf1c
import Derived.Test.Qxb6500847aGreatDoorOsTf1d
import Derived.Test.Qxb6500847aGreatDoorOsTf1e
import Derived.Test.Qxb6500847aGreatDoorOsTf2
import Derived.Test.Qxb6500847aGreatDoorOsTf3
import Derived.Test.Qxb6500847aGreatDoorOsTf5
import Derived.Test.Qxb6500847aGreatDoorOsTf0_0
import Derived.Test.Qxb6500847aGreatDoorOsTf0_1
import Derived.Test.Qxb6500847aGreatDoorOsTf0_2
import Derived.Test.Qxb6500847aGreatDoorOsTf0_4
import Derived.Test.Qxb6500847aGreatDoorOsTf0_5
import Derived.Test.Qxb6500847aGreatDoorOsTf0_n
import Derived.Test.Qxb6500847aGreatDoorOsTg
namespace Go.Proofs.Qxb6500847aGreatDoor.Os
open Go.RowKit FloorA
set_option maxRecDepth 100000
section
variable {A : Nat} {rb sb : Nat → Nat} {s : Av} {tl : Nat → List Int} {ws : Nat → Nat → Nat → Int} {w : World} {L : Nat → List Nat} {n : Nat}
theorem ts_walk (h : Ms w A rb sb s tl ws) (hI : IV s tl L n) (hW : Wr ws) (hK : Kd w) (kl : 1 < w.heap.size) (i : Nat) (g : Int) (f v : Nat) (hv : v < 18446744073709551616) :
    Calls Tryz.prog 61 #[.pointer (some ⟨A, 0, none⟩), .agg #[.int .u16 (i : Int), .int .u32 g], .int .i64 (f : Int), .int .u64 (v : Int)] w (TsPost A rb sb s tl ws (stoX (ob s ws) i g f (v : Int)) w) := by
  have hx : ∃ k : Nat, (if Live s i g then (s.hd i).typ else 0) = (k : Int) ∧ k ≤ 7 := by
    by_cases hl : Live s i g
    · obtain ⟨k, ek, k7, _⟩ := hI.ge.typ i hl.1
      exact ⟨k, by rw [if_pos hl, ek], k7⟩
    · exact ⟨0, by rw [if_neg hl]; rfl, by omega⟩
  obtain ⟨k, ek, k7⟩ := hx
  match k, k7, ek with
  | 0, _, ek => exact ts_no h hI hW hK kl i g f v hv (Or.inl ek)
  | 1, _, ek => exact ts_no h hI hW hK kl i g f v hv (Or.inr ek)
  | 2, _, ek =>
    by_cases hf : f < 112
    · have hc : f / 7 < 16 := by omega
      have hm : f % 7 < 7 := by omega
      have ef : f = 7 * (f / 7) + f % 7 := by omega
      generalize f / 7 = c at *
      generalize f % 7 = r at *
      match r, hm, ef with
      | 0, _, ef => subst ef; exact ts_0_0 h hI hW hK kl i g hc rfl v hv ek
      | 1, _, ef => subst ef; exact ts_0_1 h hI hW hK kl i g hc rfl v hv ek
      | 2, _, ef => subst ef; exact ts_0_2 h hI hW hK kl i g hc rfl v hv ek
      | 3, _, ef => subst ef; exact ts_0_3 h hI hW hK kl i g hc rfl v hv ek
      | 4, _, ef => subst ef; exact ts_0_4 h hI hW hK kl i g hc rfl v hv ek
      | 5, _, ef => subst ef; exact ts_0_5 h hI hW hK kl i g hc rfl v hv ek
      | 6, _, ef => subst ef; exact ts_0_6 h hI hW hK kl i g hc rfl v hv ek
    · exact ts_0_no h hI hW hK kl i g (by omega) v hv ek
  | 3, _, ek =>
    by_cases h0 : f = 0
    · subst h0; exact ts_1_0 h hI hW hK kl i g v hv ek
    by_cases h1 : f = 1
    · subst h1; exact ts_1_1 h hI hW hK kl i g v hv ek
    by_cases h10 : f = 10
    · subst h10; exact ts_1_10 h hI hW hK kl i g v hv ek
    by_cases h15 : f = 15
    · subst h15; exact ts_1_15 h hI hW hK kl i g v hv ek
    by_cases h3 : f = 3
    · subst h3; exact ts_1_3 h hI hW hK kl i g v hv ek
    by_cases h4 : f = 4
    · subst h4; exact ts_1_4 h hI hW hK kl i g v hv ek
    by_cases h2 : f = 2
    · subst h2; exact ts_1_2 h hI hW hK kl i g v hv ek
    by_cases h5 : f = 5
    · subst h5; exact ts_1_5 h hI hW hK kl i g v hv ek
    by_cases h7 : f = 7
    · subst h7; exact ts_1_7 h hI hW hK kl i g v hv ek
    by_cases h8 : f = 8
    · subst h8; exact ts_1_8 h hI hW hK kl i g v hv ek
    exact ts_1_no h hI hW hK kl i g f (by rw [beq_eq_false_iff_ne]; omega) (by rw [beq_eq_false_iff_ne]; omega) (by rw [beq_eq_false_iff_ne]; omega) (by rw [beq_eq_false_iff_ne]; omega) (by rw [beq_eq_false_iff_ne]; omega) (by rw [beq_eq_false_iff_ne]; omega) (by rw [beq_eq_false_iff_ne]; omega) (by rw [beq_eq_false_iff_ne]; omega) (by rw [beq_eq_false_iff_ne]; omega) (by rw [beq_eq_false_iff_ne]; omega) v hv ek
  | 4, _, ek =>
    by_cases h0 : f = 0
    · subst h0; exact ts_2_0 h hI hW hK kl i g v hv ek
    by_cases h1 : f = 1
    · subst h1; exact ts_2_1 h hI hW hK kl i g v hv ek
    by_cases h2 : f = 2
    · subst h2; exact ts_2_2 h hI hW hK kl i g v hv ek
    exact ts_2_no h hI hW hK kl i g f (by rw [beq_eq_false_iff_ne]; omega) (by rw [beq_eq_false_iff_ne]; omega) (by rw [beq_eq_false_iff_ne]; omega) v hv ek
  | 5, _, ek =>
    by_cases h1 : f = 1
    · subst h1; exact ts_3_1 h hI hW hK kl i g v hv ek
    by_cases h2 : f = 2
    · subst h2; exact ts_3_2 h hI hW hK kl i g v hv ek
    by_cases h3 : f = 3
    · subst h3; exact ts_3_3 h hI hW hK kl i g v hv ek
    exact ts_3_no h hI hW hK kl i g f (by rw [beq_eq_false_iff_ne]; omega) (by rw [beq_eq_false_iff_ne]; omega) (by rw [beq_eq_false_iff_ne]; omega) v hv ek
  | 6, _, ek =>
    by_cases h0 : f = 0
    · subst h0; exact ts_4_0 h hI hW hK kl i g v hv ek
    exact ts_4_no h hI hW hK kl i g f (by rw [beq_eq_false_iff_ne]; omega) v hv ek
  | 7, _, ek =>
    by_cases h0 : f = 0
    · subst h0; exact ts_5_0 h hI hW hK kl i g v hv ek
    by_cases h1 : f = 1
    · subst h1; exact ts_5_1 h hI hW hK kl i g v hv ek
    exact ts_5_no h hI hW hK kl i g f (by rw [beq_eq_false_iff_ne]; omega) (by rw [beq_eq_false_iff_ne]; omega) v hv ek
end
end Go.Proofs.Qxb6500847aGreatDoor.Os
