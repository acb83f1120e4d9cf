/-
  Decode: the state while the entries are read, exactly.
-/
import Derived.Test.Qxb6500847aGreatDoorOxDf
import Derived.Test.Qxb6500847aGreatDoorOxS
import Derived.Test.Qxb6500847aGreatDoorOsDj
namespace Go.Proofs.Qxb6500847aGreatDoor.Os
open Go.RowKit FloorA
set_option maxRecDepth 100000
theorem sumF_le {f g : Nat → Int} : ∀ {n : Nat}, (∀ i, i < n → f i ≤ g i) → sumF f n ≤ sumF g n
  | 0, _ => Int.le_refl _
  | n + 1, h => by
    show sumF f n + f n ≤ sumF g n + g n
    have h1 := sumF_le (f := f) (g := g) (n := n) (fun i hi => h i (by omega))
    have h2 := h n (by omega)
    omega
theorem sumF_lt {f g : Nat → Int} {c : Nat} : ∀ {n : Nat}, c < n → (∀ i, i < n → f i ≤ g i) → f c < g c → sumF f n < sumF g n
  | n + 1, hc, h, hlt => by
    show sumF f n + f n < sumF g n + g n
    by_cases e : c = n
    · subst e
      have h1 := sumF_le (f := f) (g := g) (n := c) (fun i hi => h i (by omega))
      omega
    · have h1 := sumF_lt (n := n) (c := c) (by omega) (fun i hi => h i (by omega)) hlt
      have h2 := h n (by omega)
      omega
section
variable {s s1 : Av} {tl tl1 : Nat → List Int} {ws ws1 : Nat → Nat → Nat → Int} {L : Nat → List Nat} {n i k fl : Nat}
structure Dx (k fl : Nat) (s : Av) (ws : Nat → Nat → Nat → Int) (s1 : Av) (tl1 : Nat → List Int) (ws1 : Nat → Nat → Nat → Int) : Prop where
  de : De k fl s ws s1 tl1 ws1
  gm : Gm0 s1
  ct : Ct0 s1 tl1
  bs : ∀ i, i < k → (s.hd i).typ ≠ 0 → (s1.hd i).bas = (s.hd i).bas ∧ (s1.hd i).siz = (s.hd i).siz
theorem Dx.skip (h : Dx k fl s ws s1 tl1 ws1) (hk : k ≤ i) (hi : i ≤ 320) (hl : ∀ j, k ≤ j → j < i → lis s (fl : Int) j = false) : Dx i fl s ws s1 tl1 ws1 := by
  refine ⟨h.de.skip hk hi hl, h.gm, h.ct, fun j hj ht => ?_⟩
  by_cases q : j < k
  · exact h.bs j q ht
  · exfalso
    have := hl j (by omega) hj
    unfold lis at this
    simp [ht] at this
theorem Dx.gone (h : Dx i fl s ws s1 tl1 ws1) (hi : i < 320) (hge : Ge s) (h0 : (s.hd i).typ = 0) (hfl : fl ≠ 4294967295) : Dx (i + 1) fl s ws (sfS s1 i (s.hd i).gen) tl1 ws1 := by
  obtain ⟨f1, f2, f3⟩ := h.de.free i (Nat.le_refl _) hi
  refine ⟨h.de.gone hi hge h0, h.gm.sf hi (f3 hfl), h.ct.sf hi f1 (by rw [f2]; omega) _, fun j hj ht => ?_⟩
  have e : j ≠ i := fun e => ht (by rw [e]; exact h0)
  rw [sf_hd, if_neg e]
  exact h.bs j (by omega) ht
theorem Dx.room (h : Dx i fl s ws s1 tl1 ws1) (hX : IX s tl L n) (hi : i < 320) {t : Nat} (t6 : t < 6) (h0 : (s.hd i).typ = ((t + 2 : Nat) : Int)) : 0 < (tl1 t).length := by
  have a := h.ct.tl t t6
  have b := hX.ct.tl t t6
  have c : sumF (fun i => one ((s1.hd i).typ = ((t + 2 : Nat) : Int))) 320 < sumF (fun i => one ((s.hd i).typ = ((t + 2 : Nat) : Int))) 320 := by
    refine sumF_lt (c := i) hi (fun j hj => ?_) ?_
    · by_cases q : j < i
      · rw [h.de.shw.typ j q]
        exact Int.le_refl _
      · have := (h.de.free j (by omega) hj).1
        rw [one_neg (by rw [this]; omega)]
        exact (one_01 _).1
    · have := (h.de.free i (Nat.le_refl _) hi).1
      rw [one_neg (by rw [this]; omega), one_pos h0]
      decide
  omega
theorem hd_ali {a b : Hd} (h : Ali a) (h1 : b.typ = a.typ) (h2 : b.bas = a.bas) (h3 : b.siz = a.siz) : Ali b := by
  unfold Ali at h ⊢
  rw [h1, h2, h3]
  exact h
theorem Dx.region (h : Dx i fl s ws s1 tl1 ws1) (hX : IX s tl L n) (hi : i < 320) (hge : Ge s) (h0 : (s.hd i).typ = 1) {b z : Nat} (hb : (s.hd i).bas = (b : Int)) (hz : (s.hd i).siz = (z : Int)) (hid : Idl s1 i) (hfl : fl ≠ 4294967295) : Dx (i + 1) fl s ws (parS (occS (genS s1 i (s.hd i).gen) i 1 b z 65535) i (s.hd i).par) tl1 ws1 := by
  have lm := hX.gm.lim i hi (by rw [h0]; decide)
  rw [hb, hz] at lm
  obtain ⟨g, eg, g1, g2, g3⟩ := hge.gen i hi
  have g4 := g3 (Or.inl (by rw [h0]; decide))
  obtain ⟨f1, f2, f3⟩ := h.de.free i (Nat.le_refl _) hi
  have i1 : 256 ≤ i := by
    obtain ⟨k, ek, _, kk⟩ := hge.typ i hi
    have : k = 1 := by omega
    exact (kk (by omega)).1 this
  have hv1 : Iv0 (genS s1 i (s.hd i).gen) tl1 := by rw [eg]; exact h.de.iv.gen g1 g4
  have e1 : (genS s1 i (s.hd i).gen).hd i = ⟨(s.hd i).gen, (s1.hd i).typ, (s1.hd i).row, (s1.hd i).par, (s1.hd i).prv, (s1.hd i).nxt, (s1.hd i).bas, (s1.hd i).siz⟩ := by rw [gen_hd, if_pos rfl]
  have t1 : ((genS s1 i (s.hd i).gen).hd i).typ = 0 := by rw [e1]; exact f1
  have gm1 : Gm0 (genS s1 i (s.hd i).gen) := h.gm.gen hid _
  have ct1 : Ct0 (genS s1 i (s.hd i).gen) tl1 := h.ct.gen (by rw [f2]; omega) (by rw [eg]; omega)
  have oc := occ_hd (genS s1 i (s.hd i).gen) i 1 b z 65535 i
  rw [if_pos rfl] at oc
  have g5 := Gm.occ_core (k := 1) (row := 65535) (b := b) (z := z) (L' := fun _ => []) gm1 hv1.tr (by decide) t1 lm (fun j hj => absurd hj (Nat.not_lt_zero _)) (fun _ _ => rfl) (fun _ => ⟨rfl, i1⟩) ((genS s1 i (s.hd i).gen).ti 0) 0
  rw [setTi_same] at g5
  have k5 := Ct.occ (k := 1) (row := 65535) (b := b) (z := z) (tl' := tl1) ct1 hi t1 (gm1.fre i hi t1).2.1 (by rw [e1]; show (s.hd i).gen ≠ _; rw [eg]; omega) id (by omega) (by omega) ⟨fun _ => i1, fun _ => rfl⟩ (fun t _ => by rw [one_neg (by omega)]; omega) ((genS s1 i (s.hd i).gen).ti 0) 0
  rw [setTi_same] at k5
  have bz := hge.bas i hi
  refine ⟨h.de.region hi hge h0 (by omega) (by omega) (fun _ => by omega) (fun h' a1 a2 a3 a4 => whN_congr a1 a2 (by rw [a3, hb]) (by rw [a4, hz])) hid, Gm0.par g5 (by rw [oc]; exact (by decide : ((1 : Nat) : Int) ≠ 0)) (fun q => hd_ali (hX.gm.ali i hi (by rw [h0]; decide) q) (by rw [oc, h0]; rfl) (by rw [oc, hb]) (by rw [oc, hz])), Ct0.par k5 i _, fun j hj ht => ?_⟩
  rw [par_hd]
  by_cases e : j = i
  · subst e
    rw [if_pos rfl, oc, hb, hz]
    exact ⟨rfl, rfl⟩
  · rw [if_neg e, occ_hd, if_neg e, gen_hd, if_neg e]
    exact h.bs j (by omega) ht
theorem Dx.object (h : Dx i fl s ws s1 tl1 ws1) (hX : IX s tl L n) (hi : i < 320) (hge : Ge s) {t : Nat} (t6 : t < 6) (h0 : (s.hd i).typ = ((t + 2 : Nat) : Int)) {b z : Nat} (hb : (s.hd i).bas = (b : Int)) (hz : (s.hd i).siz = (z : Int)) (hnr : (s.hd i).par ≠ 65535)
    (hid : Idl s1 i) (hfl : fl ≠ 4294967295) {l : List Int} {r : Nat} (hl : tl1 t = l ++ [(r : Int)]) (x : Value) {V : Nat → Int} (hV : Wq t V) (hpay : ∀ f, f < nF t → V f = ws t (s.hd i).row.toNat f) :
    Dx (i + 1) fl s ws (parS (occS ((genS s1 i (s.hd i).gen).setTi t x) i (t + 2) b z r) i (s.hd i).par) (updT tl1 t l) (updW ws1 t r V) := by
  have nz : (s.hd i).typ ≠ 0 := by rw [h0]; omega
  have lm := hX.gm.lim i hi nz
  rw [hb, hz] at lm
  obtain ⟨g, eg, g1, g2, g3⟩ := hge.gen i hi
  have g4 := g3 (Or.inl nz)
  obtain ⟨f1, f2, f3⟩ := h.de.free i (Nat.le_refl _) hi
  have i1 : i < 256 := by
    obtain ⟨k, ek, _, kk⟩ := hge.typ i hi
    have : k ≠ 1 := by omega
    have := (not_congr (kk (by omega))).1 this
    omega
  have hv1 : Iv0 (genS s1 i (s.hd i).gen) tl1 := by rw [eg]; exact h.de.iv.gen g1 g4
  have e1 : (genS s1 i (s.hd i).gen).hd i = ⟨(s.hd i).gen, (s1.hd i).typ, (s1.hd i).row, (s1.hd i).par, (s1.hd i).prv, (s1.hd i).nxt, (s1.hd i).bas, (s1.hd i).siz⟩ := by rw [gen_hd, if_pos rfl]
  have t1 : ((genS s1 i (s.hd i).gen).hd i).typ = 0 := by rw [e1]; exact f1
  have gm1 : Gm0 (genS s1 i (s.hd i).gen) := h.gm.gen hid _
  have ct1 : Ct0 (genS s1 i (s.hd i).gen) tl1 := h.ct.gen (by rw [f2]; omega) (by rw [eg]; omega)
  have oc : (occS ((genS s1 i (s.hd i).gen).setTi t x) i (t + 2) b z r).hd i = ⟨((genS s1 i (s.hd i).gen).hd i).gen, ((t + 2 : Nat) : Int), r, 65535, 65535, 65535, b, z⟩ := by rw [occ_hd, if_pos rfl]; rfl
  have g5 := Gm.occ_core (k := t + 2) (row := r) (b := b) (z := z) (L' := fun _ => []) gm1 hv1.tr (by omega) t1 lm (fun j hj => absurd hj (Nat.not_lt_zero _)) (fun _ _ => rfl) (fun q => absurd q (by omega)) x t
  have k5 := Ct.occ (k := t + 2) (row := r) (b := b) (z := z) (tl' := updT tl1 t l) ct1 hi t1 (gm1.fre i hi t1).2.1 (by rw [e1]; show (s.hd i).gen ≠ _; rw [eg]; omega) id (by omega) (by omega) ⟨fun q => by omega, fun q => by omega⟩ (fun u _ => by
    unfold updT
    by_cases e : u = t
    · rw [if_pos e, one_pos (by omega), e, hl]
      simp
    · rw [if_neg e, one_neg (by omega)]
      omega) x t
  refine ⟨h.de.object hi hge t6 h0 (by omega) (by omega) hnr (fun h' a1 a2 a3 a4 => whN_congr a1 a2 (by rw [a3, hb]) (by rw [a4, hz])) hid hl x hV hpay, Gm0.par g5 (by rw [oc]; show ((t + 2 : Nat) : Int) ≠ 0; omega) (fun q => hd_ali (hX.gm.ali i hi nz q) (by rw [oc, h0]) (by rw [oc, hb]) (by rw [oc, hz])), Ct0.par k5 i _, fun j hj ht => ?_⟩
  rw [par_hd]
  by_cases e : j = i
  · subst e
    rw [if_pos rfl, oc, hb, hz]
    exact ⟨rfl, rfl⟩
  · rw [if_neg e, occ_hd, if_neg e]
    show ((genS s1 i (s.hd i).gen).hd j).bas = _ ∧ ((genS s1 i (s.hd i).gen).hd j).siz = _
    rw [gen_hd, if_neg e]
    exact h.bs j (by omega) ht
end
end Go.Proofs.Qxb6500847aGreatDoor.Os
