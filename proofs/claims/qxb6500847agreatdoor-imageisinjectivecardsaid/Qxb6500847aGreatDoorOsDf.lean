/-
  Decode, plain: what stands while the entries are read.
-/
import Derived.Test.Qxb6500847aGreatDoorOsDa
import Derived.Test.Qxb6500847aGreatDoorOsDc
namespace Go.Proofs.Qxb6500847aGreatDoor.Os
open Go.RowKit FloorA
set_option maxRecDepth 100000
/-- What holds while no entry hangs in the tree. -/
def Iv0 (s : Av) (tl : Nat → List Int) : Prop := IVd s tl (fun _ => False) (fun _ => []) 0
section
variable {s s1 s2 : Av} {tl tl1 tl2 : Nat → List Int} {ws ws1 ws2 : Nat → Nat → Nat → Int} {k fl i : Nat}
theorem Iv0.of (hge : Ge s) (htb : Tb s tl) (hrg : ∀ p, IsReg s p → (s.rg (p - 256)).fst = 65535 ∧ (s.rg (p - 256)).lst = 65535 ∧ (s.rg (p - 256)).kds = 0) (hn : s.nrt = 0) : Iv0 s tl :=
  ⟨hge, htb, ⟨fun _ _ => trivial, fun p hp => (hrg p hp).1, fun p hp => (hrg p hp).2.1, fun p hp => (hrg p hp).2.2, fun _ _ => List.nodup_nil, fun _ _ c hc => absurd hc (by simp), fun _ _ q => absurd q id⟩, ⟨⟨by omega, hn, fun i hi => absurd hi (Nat.not_lt_zero _), fun i j _ hj => absurd hj (Nat.not_lt_zero _)⟩, fun i c hi => absurd hi (Nat.not_lt_zero _), fun _ _ q => absurd q id⟩⟩
theorem Iv0.reg (h : Iv0 s tl) (p : Nat) (hp : IsReg s p) : (s.rg (p - 256)).fst = 65535 ∧ (s.rg (p - 256)).lst = 65535 ∧ (s.rg (p - 256)).kds = 0 := ⟨h.tr.fst p hp, h.tr.lst p hp, h.tr.kds p hp⟩
theorem Tb.hdr (h : Tb s tl) (h1 : ∀ x, (s2.hd x).typ = (s.hd x).typ ∧ (s2.hd x).row = (s.hd x).row) : Tb s2 tl :=
  ⟨fun i k hi k2 k7 ht => by rw [(h1 i).2]; exact h.row i k hi k2 k7 (by rw [← (h1 i).1]; exact ht), fun i j k hi hj k2 k7 hti htj hr => h.inj i j k hi hj k2 k7 (by rw [← (h1 i).1]; exact hti) (by rw [← (h1 j).1]; exact htj) (by rw [← (h1 i).2, ← (h1 j).2]; exact hr), h.stk, h.nd⟩
/-- Only generations, parents and links of headers turn, and entries may go out of use. -/
theorem Iv0.hdr (h : Iv0 s tl) (h1 : ∀ x, (s2.hd x).typ = (s.hd x).typ ∧ (s2.hd x).row = (s.hd x).row ∧ (s2.hd x).bas = (s.hd x).bas ∧ (s2.hd x).siz = (s.hd x).siz) (hwd : Wd s2) (hidl : ∀ x, Idl s2 x → Idl s x) (hrg : s2.rg = s.rg) (hn : s2.nrt = s.nrt)
    (hg : ∀ i, i < 320 → ∃ g : Nat, (s2.hd i).gen = (g : Int) ∧ 1 ≤ g ∧ g < 4294967296 ∧ ((s2.hd i).typ ≠ 0 ∨ Idl s2 i → g < 4294967295)) : Iv0 s2 tl := by
  refine Iv0.of ⟨hwd, fun i hi q => by rw [(h1 i).1]; exact h.ge.idl i hi (hidl i q), fun i hi => by rw [(h1 i).1]; exact h.ge.typ i hi, hg, fun i hi => by rw [(h1 i).2.2.1, (h1 i).2.2.2]; exact h.ge.bas i hi⟩ (Tb.hdr h.tb (fun x => ⟨(h1 x).1, (h1 x).2.1⟩)) (fun p hp => ?_) (by rw [hn]; exact h.ro.rts.nrt)
  rw [hrg]
  exact h.reg p ⟨hp.1, hp.2.1, by rw [← (h1 p).1]; exact hp.2.2⟩
/-- The entries below k are read, the others are as the floor says. -/
structure De (k fl : Nat) (s : Av) (ws : Nat → Nat → Nat → Int) (s1 : Av) (tl1 : Nat → List Int) (ws1 : Nat → Nat → Nat → Int) : Prop where
  iv : Iv0 s1 tl1
  wr : Wr ws1
  shw : Shw k s s1 ws ws1
  free : ∀ i, k ≤ i → i < 320 → (s1.hd i).typ = 0 ∧ (s1.hd i).gen = (fl : Int) ∧ (fl ≠ 4294967295 → Idl s1 i)
  rts : ∀ i, i < k → (s1.hd i).typ ≠ 0 → (s1.hd i).par = 65535 → 0 ≤ (s1.hd i).bas ∧ 0 < (s1.hd i).siz ∧ (s1.hd i).bas + (s1.hd i).siz ≤ 281474976710656
theorem De.skip (h : De k fl s ws s1 tl1 ws1) (hk : k ≤ i) (hi : i ≤ 320) (hl : ∀ j, k ≤ j → j < i → lis s (fl : Int) j = false) : De i fl s ws s1 tl1 ws1 := by
  have key : ∀ j, k ≤ j → j < i → (s.hd j).typ = 0 ∧ (s.hd j).gen = (fl : Int) := fun j h1 h2 => by
    have := hl j h1 h2
    unfold lis at this
    simpa using this
  refine ⟨h.iv, h.wr, ⟨fun j hj => ?_, fun j hj => ?_, fun j hj ht => ?_, fun j hj ht => ?_, fun j t hj ht hty => ?_⟩, fun j h1 h2 => h.free j (by omega) h2, fun j hj ht => ?_⟩
  · by_cases q : j < k
    · exact h.shw.gen j q
    · rw [(h.free j (by omega) (by omega)).2.1, (key j (by omega) hj).2]
  · by_cases q : j < k
    · exact h.shw.typ j q
    · rw [(h.free j (by omega) (by omega)).1, (key j (by omega) hj).1]
  · by_cases q : j < k
    · exact h.shw.whr j q ht
    · exact absurd (key j (by omega) hj).1 ht
  · by_cases q : j < k
    · exact h.shw.par j q ht
    · exact absurd (key j (by omega) hj).1 ht
  · by_cases q : j < k
    · exact h.shw.pay j t q ht hty
    · have := (key j (by omega) hj).1
      rw [hty] at this
      omega
  · by_cases q : j < k
    · exact h.rts j q ht
    · exact absurd (h.free j (by omega) (by omega)).1 ht
theorem De.put (h : De i fl s ws s1 tl1 ws1) (hi : i < 320) (iv2 : Iv0 s2 tl2) (wr2 : Wr ws2) (h1 : ∀ x, x ≠ i → s2.hd x = s1.hd x) (hidl : ∀ x, x ≠ i → (Idl s2 x ↔ Idl s1 x)) (hg : (s2.hd i).gen = (s.hd i).gen) (ht : (s2.hd i).typ = (s.hd i).typ)
    (hp : (s.hd i).typ ≠ 0 → (s2.hd i).par = (s.hd i).par) (hw : (s.hd i).typ ≠ 0 → whN (s2.hd i) = whN (s.hd i)) (hpay : ∀ t, t < 6 → (s.hd i).typ = ((t + 2 : Nat) : Int) → ∀ f, f < nF t → ws2 t (s2.hd i).row.toNat f = ws t (s.hd i).row.toNat f)
    (hws : ∀ u q : Nat, ¬ ((s2.hd i).typ = ((u + 2 : Nat) : Int) ∧ (s2.hd i).row = (q : Int)) → ws2 u q = ws1 u q)
    (hr : (s2.hd i).typ ≠ 0 → (s2.hd i).par = 65535 → 0 ≤ (s2.hd i).bas ∧ 0 < (s2.hd i).siz ∧ (s2.hd i).bas + (s2.hd i).siz ≤ 281474976710656) : De (i + 1) fl s ws s2 tl2 ws2 := by
  refine ⟨iv2, wr2, ⟨fun j hj => ?_, fun j hj => ?_, fun j hj h00 => ?_, fun j hj h00 => ?_, fun j t hj h6 hty => ?_⟩, fun j h2 h3 => ?_, fun j hj h00 => ?_⟩
  · by_cases q : j = i
    · rw [q]; exact hg
    · rw [h1 j q]; exact h.shw.gen j (by omega)
  · by_cases q : j = i
    · rw [q]; exact ht
    · rw [h1 j q]; exact h.shw.typ j (by omega)
  · by_cases q : j = i
    · subst q; exact hw h00
    · rw [h1 j q]; exact h.shw.whr j (by omega) h00
  · by_cases q : j = i
    · subst q; exact hp h00
    · rw [h1 j q]; exact h.shw.par j (by omega) h00
  · by_cases q : j = i
    · subst q; exact hpay t h6 hty
    · intro f hf
      have hty1 : (s1.hd j).typ = ((t + 2 : Nat) : Int) := by rw [h.shw.typ j (by omega)]; exact hty
      have hty2 : (s2.hd j).typ = ((t + 2 : Nat) : Int) := by rw [h1 j q]; exact hty1
      obtain ⟨r, er, _, _⟩ := iv2.tb.row j (t + 2) (by omega) (by omega) (by omega) hty2
      have e2 : ws2 t r = ws1 t r := hws t r (fun k => q (iv2.tb.inj j i (t + 2) (by omega) hi (by omega) (by omega) hty2 k.1 (by rw [er, k.2])))
      have := h.shw.pay j t (by omega) h6 hty f hf
      rw [h1 j q] at er ⊢
      rw [er, Int.toNat_natCast] at this ⊢
      rw [e2]
      exact this
  · rw [h1 j (by omega)]
    obtain ⟨a1, a2, a3⟩ := h.free j (by omega) h3
    exact ⟨a1, a2, fun k => (hidl j (by omega)).2 (a3 k)⟩
  · by_cases q : j = i
    · subst q; exact hr h00
    · rw [h1 j q] at h00 ⊢
      exact h.rts j (by omega) h00
/-- A free entry that is listed. -/
theorem De.gone (h : De i fl s ws s1 tl1 ws1) (hi : i < 320) (hge : Ge s) (h0 : (s.hd i).typ = 0) : De (i + 1) fl s ws (sfS s1 i (s.hd i).gen) tl1 ws1 := by
  obtain ⟨f1, f2, f3⟩ := h.free i (Nat.le_refl _) hi
  have hsm := sf_same s1 i (s.hd i).gen
  have hiv : Iv0 (sfS s1 i (s.hd i).gen) tl1 := by
    refine h.iv.hdr (fun x => ?_) (sf_wd h.iv.ge.wd i _) (fun x q => ((sf_idl s1 i _ x).1 q).1) hsm.1 hsm.2.2.1 (fun x hx => ?_)
    · rw [sf_hd]
      split
      · next e => subst e; exact ⟨rfl, rfl, rfl, rfl⟩
      · exact ⟨rfl, rfl, rfl, rfl⟩
    · rw [sf_hd]
      by_cases q : x = i
      · subst q
        rw [if_pos rfl]
        obtain ⟨g, e, a1, a2, a3⟩ := hge.gen x hx
        refine ⟨g, e, a1, a2, fun k => ?_⟩
        rcases k with k | k
        · exact absurd f1 k
        · have := (sf_idl s1 x (s.hd x).gen x).1 k
          by_cases q : g = 4294967295
          · exact absurd rfl (this.2 (by rw [e]; omega))
          · omega
      · rw [if_neg q]
        obtain ⟨g, e, a1, a2, a3⟩ := h.iv.ge.gen x hx
        exact ⟨g, e, a1, a2, fun k => a3 (k.imp id (fun k => ((sf_idl s1 i _ x).1 k).1))⟩
  refine h.put hi hiv h.wr (fun x e => by rw [sf_hd, if_neg e]) (fun x e => ?_) (by rw [sf_hd, if_pos rfl]) (by rw [sf_hd, if_pos rfl, h0]; exact f1) (fun q => absurd h0 q) (fun q => absurd h0 q) (fun t _ q => by rw [h0] at q; omega) (fun _ _ _ => rfl) (fun q => ?_)
  · rw [sf_idl]
    exact ⟨fun q => q.1, fun q => ⟨q, fun _ => e⟩⟩
  · rw [sf_hd, if_pos rfl] at q
    exact absurd f1 q
def parS (s : Av) (i : Nat) (p : Int) : Av := s.setHd i ⟨(s.hd i).gen, (s.hd i).typ, (s.hd i).row, p, (s.hd i).prv, (s.hd i).nxt, (s.hd i).bas, (s.hd i).siz⟩
theorem par_hd (s : Av) (i : Nat) (p : Int) (x : Nat) : (parS s i p).hd x = if x = i then ⟨(s.hd i).gen, (s.hd i).typ, (s.hd i).row, p, (s.hd i).prv, (s.hd i).nxt, (s.hd i).bas, (s.hd i).siz⟩ else s.hd x := rfl
theorem Ms.setPar {A : Nat} {rb sb : Nat → Nat} {w : World} (h : Ms w A rb sb s tl ws) (hi : i < 320) (p : Int) : Ms (w.setCell ⟨A, i * 8 + 3, none⟩ (.int .u16 p)) A rb sb (parS s i p) tl ws := by
  refine h.setS (h.am.setHd (f := 3) hi (by omega) rfl (fun f hf h0 => ?_)) rfl rfl
  match f, hf, h0 with
  | 0, _, _ => rfl
  | 1, _, _ => rfl
  | 2, _, _ => rfl
  | 3, _, h => exact absurd rfl h
  | 4, _, _ => rfl
  | 5, _, _ => rfl
  | 6, _, _ => rfl
  | 7, _, _ => rfl
  | f + 8, h, _ => exact absurd h (by omega)
theorem Iv0.par (h : Iv0 s tl) (i : Nat) (p : Int) : Iv0 (parS s i p) tl := by
  refine h.hdr (fun x => ?_) h.ge.wd (fun _ q => q) rfl rfl (fun x hx => ?_)
  · rw [par_hd]
    split
    · next e => subst e; exact ⟨rfl, rfl, rfl, rfl⟩
    · exact ⟨rfl, rfl, rfl, rfl⟩
  · rw [par_hd]
    by_cases q : x = i
    · subst q; rw [if_pos rfl]; exact h.ge.gen x hx
    · rw [if_neg q]; exact h.ge.gen x hx
theorem Iv0.gen (h : Iv0 s tl) {i g : Nat} (g1 : 1 ≤ g) (g2 : g < 4294967295) : Iv0 (genS s i (g : Int)) tl := by
  refine h.hdr (fun x => ?_) h.ge.wd (fun _ q => q) rfl rfl (fun x hx => ?_)
  · rw [gen_hd]
    split
    · next e => subst e; exact ⟨rfl, rfl, rfl, rfl⟩
    · exact ⟨rfl, rfl, rfl, rfl⟩
  · rw [gen_hd]
    by_cases q : x = i
    · subst q; rw [if_pos rfl]; exact ⟨g, rfl, g1, by omega, fun _ => g2⟩
    · rw [if_neg q]; exact h.ge.gen x hx
theorem updL_nil (c : Nat) : updL (fun _ => []) c [] = fun _ => [] := by
  funext q
  unfold updL
  split <;> rfl
/-- A live region that is listed. -/
theorem De.region (h : De i fl s ws s1 tl1 ws1) (hi : i < 320) (hge : Ge s) (h0 : (s.hd i).typ = 1) {b z : Nat} (hb : b < 18446744073709551616) (hz : z < 18446744073709551616) (hrt : (s.hd i).par = 65535 → 0 < z ∧ b + z ≤ 281474976710656)
    (hw : ∀ h' : Hd, h'.par = (s.hd i).par → h'.typ = (s.hd i).typ → h'.bas = (b : Int) → h'.siz = (z : Int) → whN h' = whN (s.hd i)) (hid : Idl s1 i) : De (i + 1) fl s ws (parS (occS (genS s1 i (s.hd i).gen) i 1 b z 65535) i (s.hd i).par) tl1 ws1 := by
  obtain ⟨f1, f2, f3⟩ := h.free i (Nat.le_refl _) hi
  obtain ⟨g, eg, g1, g2, g3⟩ := hge.gen i hi
  have g4 := g3 (Or.inl (by rw [h0]; decide))
  have i1 : 256 ≤ i := by
    obtain ⟨k, ek, _, kk⟩ := hge.typ i hi
    have : k = 1 := by omega
    exact (kk (by omega)).1 this
  have hv1 : Iv0 (genS s1 i (s.hd i).gen) tl1 := by rw [eg]; exact h.iv.gen g1 g4
  have hv2 : Iv0 (occS (genS s1 i (s.hd i).gen) i 1 b z 65535) tl1 := by
    have := IVd.occR hv1 hi i1 (show Idl (genS s1 i (s.hd i).gen) i from hid) id (b := (b : Int)) (z := (z : Int)) ⟨by omega, by omega, by omega, by omega⟩
    rw [updL_nil] at this
    exact this
  have e2 : (parS (occS (genS s1 i (s.hd i).gen) i 1 b z 65535) i (s.hd i).par).hd i = ⟨(s.hd i).gen, 1, 65535, (s.hd i).par, 65535, 65535, b, z⟩ := by
    rw [par_hd, if_pos rfl, occ_hd, if_pos rfl, gen_hd, if_pos rfl]
    rfl
  refine h.put hi (hv2.par i _) h.wr (fun x e => ?_) (fun x e => ?_) (by rw [e2]) (by rw [e2, h0]) (fun _ => by rw [e2]) (fun _ => by rw [e2]; exact hw _ rfl h0.symm rfl rfl) (fun t _ q => by rw [h0] at q; omega) (fun _ _ _ => rfl) (fun _ q => ?_)
  · rw [par_hd, if_neg e, occ_hd, if_neg e, gen_hd, if_neg e]
  · exact (show Idl (occS (genS s1 i (s.hd i).gen) i 1 b z 65535) x ↔ _ from by rw [occ_idl]; exact ⟨fun q => q.1, fun q => ⟨q, e⟩⟩)
  · rw [e2] at q ⊢
    have := hrt q
    exact ⟨by show (0 : Int) ≤ b; omega, by show (0 : Int) < z; omega, by show (b : Int) + z ≤ _; omega⟩
/-- A live object that is listed. -/
theorem De.object (h : De i fl s ws s1 tl1 ws1) (hi : i < 320) (hge : Ge s) {t : Nat} (t6 : t < 6) (h0 : (s.hd i).typ = ((t + 2 : Nat) : Int)) {b z : Nat} (hb : b < 18446744073709551616) (hz : z < 18446744073709551616) (hnr : (s.hd i).par ≠ 65535)
    (hw : ∀ h' : Hd, h'.par = (s.hd i).par → h'.typ = (s.hd i).typ → h'.bas = (b : Int) → h'.siz = (z : Int) → whN h' = whN (s.hd i)) (hid : Idl s1 i) {l : List Int} {r : Nat} (hl : tl1 t = l ++ [(r : Int)]) (x : Value) {V : Nat → Int} (hV : Wq t V) (hpay : ∀ f, f < nF t → V f = ws t (s.hd i).row.toNat f) :
    De (i + 1) fl s ws (parS (occS ((genS s1 i (s.hd i).gen).setTi t x) i (t + 2) b z r) i (s.hd i).par) (updT tl1 t l) (updW ws1 t r V) := by
  obtain ⟨g, eg, g1, g2, g3⟩ := hge.gen i hi
  have g4 := g3 (Or.inl (by rw [h0]; omega))
  have i1 : i < 256 := by
    obtain ⟨k, ek, _, kk⟩ := hge.typ i hi
    have : k ≠ 1 := by omega
    have := (not_congr (kk (by omega))).1 this
    omega
  have hv1 : Iv0 (genS s1 i (s.hd i).gen) tl1 := by rw [eg]; exact h.iv.gen g1 g4
  have hv2 : Iv0 (occS ((genS s1 i (s.hd i).gen).setTi t x) i (t + 2) b z r) (updT tl1 t l) := by
    have := IVd.occO (k := t + 2) hv1 i1 (show Idl (genS s1 i (s.hd i).gen) i from hid) id (by omega) (by omega) (q := r) (l := l) hl (b := (b : Int)) (z := (z : Int)) ⟨by omega, by omega, by omega, by omega⟩ x
    exact this
  have e2 : (parS (occS ((genS s1 i (s.hd i).gen).setTi t x) i (t + 2) b z r) i (s.hd i).par).hd i = ⟨(s.hd i).gen, ((t + 2 : Nat) : Int), r, (s.hd i).par, 65535, 65535, b, z⟩ := by
    rw [par_hd, if_pos rfl, occ_hd, if_pos rfl]
    show (⟨((genS s1 i (s.hd i).gen).hd i).gen, _, _, _, _, _, _, _⟩ : Hd) = _
    rw [gen_hd, if_pos rfl]
  refine h.put hi (hv2.par i _) (h.wr.upd hV) (fun x e => ?_) (fun x e => ?_) (by rw [e2]) (by rw [e2, h0]) (fun _ => by rw [e2]) (fun _ => by rw [e2]; exact hw _ rfl h0.symm rfl rfl) (fun u _ q f hf => ?_) (fun u q k => ?_) (fun _ q => ?_)
  · rw [par_hd, if_neg e, occ_hd, if_neg e]
    show (genS s1 i (s.hd i).gen).hd x = _
    rw [gen_hd, if_neg e]
  · exact (show Idl (occS ((genS s1 i (s.hd i).gen).setTi t _) i (t + 2) b z r) x ↔ _ from by rw [occ_idl]; exact ⟨fun q => q.1, fun q => ⟨q, e⟩⟩)
  · rw [e2]
    have hu : u = t := by rw [h0] at q; omega
    subst hu
    rw [updW, if_pos ⟨rfl, by simp⟩]
    exact hpay f hf
  · rw [e2] at k
    unfold updW
    rw [if_neg (fun e => k ⟨by rw [e.1], by rw [e.2]⟩)]
  · rw [e2] at q
    exact absurd q hnr
end
end Go.Proofs.Qxb6500847aGreatDoor.Os
