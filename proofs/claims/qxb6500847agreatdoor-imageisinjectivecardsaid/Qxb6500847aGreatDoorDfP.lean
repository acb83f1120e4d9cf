/-
  Differences: none exactly if the states are alike.
-/
import Derived.Test.Qxb6500847aGreatDoorDfA
import Derived.Test.Qxb6500847aGreatDoorMdH
namespace Go.Proofs.Qxb6500847aGreatDoor.Os
open Go.RowKit FloorA
set_option maxRecDepth 100000
theorem nt_nil {x y : Int} {d : Df} : nt x y d = [] ↔ x = y := by
  unfold nt
  by_cases h : x = y
  · simp [h]
  · simp [h]
theorem dfW_nil {M N : Nat → En} {i : Nat} : ∀ k, dfW M N i k = [] ↔ ∀ f, f < k → (M i).wds.getD f 0 = (N i).wds.getD f 0
  | 0 => ⟨fun _ f hf => by omega, fun _ => rfl⟩
  | k + 1 => by
    rw [dfW_succ, List.append_eq_nil_iff, dfW_nil k, nt_nil]
    refine ⟨fun h f hf => ?_, fun h => ⟨fun f hf => h f (by omega), h k (by omega)⟩⟩
    by_cases q : f = k
    · rw [q]; exact h.2
    · exact h.1 f (by omega)
theorem pz_inj {M N : Nat → En} (hM : Mk M) (hN : Mk N) {i : Nat} (hi : i < 320) (h : pz (M i).par + 1 = pz (N i).par + 1) : (M i).par = (N i).par := by
  unfold pz at h
  rcases hM.par i hi with a | ⟨p, p3, a⟩ <;> rcases hN.par i hi with b | ⟨q, q3, b⟩
  · omega
  · rw [if_pos a, if_neg (by omega)] at h; omega
  · rw [if_neg (by omega), if_pos b] at h; omega
  · rw [if_neg (by omega), if_neg (by omega)] at h; omega
theorem dfE_nil {M N : Nat → En} (hM : Mk M) (hN : Mk N) {i : Nat} (hi : i < 320) : dfE M N i = [] ↔ M i = N i := by
  unfold dfE
  by_cases ht : (M i).typ = (N i).typ
  · rw [if_pos ht]
    simp only [List.append_eq_nil_iff, nt_nil, dfW_nil]
    constructor
    · rintro ⟨h1, ⟨⟨h2, h3⟩, h4⟩, h5⟩
      have hp := pz_inj hM hN hi h4
      have hl : (M i).wds.length = (N i).wds.length := by rw [hM.wln i hi, hN.wln i hi, ht]
      have hw : (M i).wds = (N i).wds := by
        apply List.ext_getElem hl
        intro f f1 f2
        have := h5 f f1
        rw [List.getD_eq_getElem?_getD, List.getD_eq_getElem?_getD, List.getElem?_eq_getElem f1, List.getElem?_eq_getElem f2] at this
        exact this
      generalize M i = x at *
      generalize N i = y at *
      obtain ⟨a, b, c, d, e, f⟩ := x
      obtain ⟨a', b', c', d', e', f'⟩ := y
      simp only at h1 ht h2 h3 hp hw
      subst h1 ht h2 h3 hp hw
      rfl
    · intro h
      rw [h]
      exact ⟨rfl, ⟨⟨rfl, rfl⟩, rfl⟩, fun _ _ => rfl⟩
  · rw [if_neg ht]
    simp only [List.append_eq_nil_iff]
    exact ⟨fun h => absurd h.2 (by simp), fun h => absurd (by rw [h]) ht⟩
theorem dfL_nil {M N : Nat → En} (hM : Mk M) (hN : Mk N) : ∀ k, k ≤ 320 → (dfL M N k = [] ↔ ∀ i, i < k → M i = N i)
  | 0, _ => ⟨fun _ i hi => by omega, fun _ => rfl⟩
  | k + 1, h => by
    rw [dfL_succ, List.append_eq_nil_iff, dfL_nil hM hN k (by omega), dfE_nil hM hN (by omega)]
    refine ⟨fun z i hi => ?_, fun z => ⟨fun i hi => z i (by omega), z k (by omega)⟩⟩
    by_cases q : i = k
    · rw [q]; exact z.2
    · exact z.1 i (by omega)
/-- Two sound states. -/
theorem dfL_ob {s s2 : Av} {tl tl2 : Nat → List Int} {ws ws2 : Nat → Nat → Nat → Int} {L L2 : Nat → List Nat} {n n2 : Nat} (h : Sd s tl ws L n) (h2 : Sd s2 tl2 ws2 L2 n2) : dfL (ob s ws) (ob s2 ws2) 320 = [] ↔ ob s2 ws2 = ob s ws := by
  rw [dfL_nil h.num h2.num 320 (Nat.le_refl _)]
  refine ⟨fun z => ?_, fun z i _ => by rw [z]⟩
  funext i
  by_cases q : i < 320
  · exact (z i q).symm
  · rw [ob_out _ _ q, ob_out _ _ q]
end Go.Proofs.Qxb6500847aGreatDoor.Os
