/-
  The model's cells, set one by one.
-/
import Derived.Test.Qxb6500847aGreatDoorMdU
namespace Go.Proofs.Qxb6500847aGreatDoor.Os
open Go.RowKit FloorA
set_option maxRecDepth 100000
section
variable {w w' : World} {B : Nat} {wb : Nat → Nat} {M : Nat → En} {i : Nat}
theorem updO_same (M : Nat → En) (i : Nat) (e : En) : updM M i e i = e := if_pos rfl
theorem updO_other (M : Nat → En) {i j : Nat} (e : En) (h : j ≠ i) : updM M i e j = M j := if_neg h
theorem updM_twice (M : Nat → En) (i : Nat) (e e' : En) : updM (updM M i e) i e' = updM M i e' := by
  funext j
  by_cases h : j = i
  · rw [h, updO_same, updO_same]
  · rw [updO_other _ _ h, updO_other _ _ h, updO_other _ _ h]
theorem off_ne {B o o' : Nat} (h : o ≠ o') : (⟨B, o, none⟩ : Addr) ≠ ⟨B, o', none⟩ := fun e => h (congrArg Addr.off e)
theorem blk_ne {b b' o o' : Nat} (h : b ≠ b') : (⟨b, o, none⟩ : Addr) ≠ ⟨b', o', none⟩ := fun e => h (congrArg Addr.block e)
theorem WdV.set1 {g : Nat} {l : List Int} {v x : Value} {o : Nat} (h : WdV w g l v) (hne : l ≠ [] → g ≠ B) : WdV (w.setCell ⟨B, o, none⟩ x) g l v := by
  rcases h with h | ⟨hl, c, e1, e2, e3, e4, e5⟩
  · exact Or.inl h
  · exact Or.inr ⟨hl, c, e1, e2, e3, fun k y hy => (set_other (blk_ne (hne hl).symm)).trans (e4 k y hy), fun q => (World.frozen?_setCell ..).trans (e5 q)⟩
theorem Md.fld (h : Md w B wb M) (hi : i < 320) (j : Nat) (hj : j < 5) (e : En) (hw : e.wds = (M i).wds) {x : Value} (hx : (entL e)[j]? = some x) (ho : ∀ k, k ≠ j → (entL e)[k]? = (entL (M i))[k]?) : Md (w.setCell ⟨B, i * 6 + j, none⟩ x) B wb (updM M i e) := by
  have wd : ∀ a, (updM M i e a).wds = (M a).wds := fun a => by
    by_cases q : a = i
    · rw [q, updO_same]; exact hw
    · rw [updO_other _ _ q]
  refine ⟨fun a ha k y hy => ?_, fun a ha => ?_, fun o => (World.frozen?_setCell ..).trans (h.fz o), fun a ha hw' => h.ne a ha (by rw [← wd]; exact hw'), fun a b ha hb h1 h2 => h.inj a b ha hb (by rw [← wd]; exact h1) (by rw [← wd]; exact h2)⟩
  · have hk : k < 5 := (List.getElem?_eq_some_iff.1 hy).1
    by_cases q : a = i
    · subst q
      rw [updO_same] at hy
      by_cases z : k = j
      · subst z
        rw [hx] at hy
        obtain rfl := Option.some.inj hy
        obtain ⟨u, hu⟩ : ∃ u, (entL (M a))[k]? = some u := ⟨_, List.getElem?_eq_getElem (by exact hk)⟩
        exact set_same (h.cel a ha k u hu)
      · rw [ho k z] at hy
        exact (set_other (off_ne (by omega))).trans (h.cel a ha k y hy)
    · rw [updO_other _ _ q] at hy
      exact (set_other (off_ne (by omega))).trans (h.cel a ha k y hy)
  · obtain ⟨v, h1, h2⟩ := h.wrd a ha
    refine ⟨v, (set_other (off_ne (by omega))).trans h1, ?_⟩
    rw [wd]
    exact h2.set1 (fun z => h.ne a ha z)
theorem Md.wset (h : Md w B wb M) (hi : i < 320) {l : List Int} {g : Nat} {v : Value} (hv : WdV w g l v) (hg : l ≠ [] → g ≠ B ∧ ∀ j, j < 320 → j ≠ i → (M j).wds ≠ [] → wb j ≠ g) : Md (w.setCell ⟨B, i * 6 + 5, none⟩ v) B (fun j => if j = i then g else wb j) (updM M i { M i with wds := l }) := by
  refine ⟨fun a ha k y hy => ?_, fun a ha => ?_, fun o => (World.frozen?_setCell ..).trans (h.fz o), fun a ha hw' => ?_, fun a b ha hb h1 h2 h3 => ?_⟩
  · have hk : k < 5 := (List.getElem?_eq_some_iff.1 hy).1
    have hy' : (entL (M a))[k]? = some y := by
      by_cases q : a = i
      · subst q
        rw [updO_same] at hy
        exact hy
      · rw [updO_other _ _ q] at hy
        exact hy
    exact (set_other (off_ne (by omega))).trans (h.cel a ha k y hy')
  · by_cases q : a = i
    · subst q
      obtain ⟨u, h1, _⟩ := h.wrd a ha
      refine ⟨v, set_same h1, ?_⟩
      rw [updO_same, if_pos rfl]
      exact hv.set1 (fun z => (hg z).1)
    · obtain ⟨u, h1, h2⟩ := h.wrd a ha
      refine ⟨u, (set_other (off_ne (by omega))).trans h1, ?_⟩
      rw [updO_other _ _ q, if_neg q]
      exact h2.set1 (fun z => h.ne a ha z)
  · by_cases q : a = i
    · subst q
      rw [updO_same] at hw'
      rw [if_pos rfl]
      exact (hg hw').1
    · rw [updO_other _ _ q] at hw'
      rw [if_neg q]
      exact h.ne a ha hw'
  · by_cases qa : a = i
    · by_cases qb : b = i
      · omega
      · subst qa
        rw [updO_same] at h1
        rw [updO_other _ _ qb] at h2
        rw [if_pos rfl, if_neg qb] at h3
        exact absurd h3.symm ((hg h1).2 b hb qb h2)
    · by_cases qb : b = i
      · subst qb
        rw [updO_same] at h2
        rw [updO_other _ _ qa] at h1
        rw [if_pos rfl, if_neg qa] at h3
        exact absurd h3 ((hg h2).2 a ha qa h1)
      · rw [updO_other _ _ qa] at h1
        rw [updO_other _ _ qb] at h2
        rw [if_neg qa, if_neg qb] at h3
        exact h.inj a b ha hb h1 h2 h3
end
end Go.Proofs.Qxb6500847aGreatDoor.Os
