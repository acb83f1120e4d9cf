/-
  Decode: link, plainly: no entry is refused.
-/
import Derived.Test.Qxb6500847aGreatDoorOxDx
import Derived.Test.Qxb6500847aGreatDoorOxQk
import Derived.Test.Qxb6500847aGreatDoorOsDi
namespace Go.Proofs.Qxb6500847aGreatDoor.Os
open Go.RowKit FloorA
set_option maxRecDepth 100000
section
variable {s s1 s2 : Av} {tl tl1 : Nat → List Int} {ws ws1 : Nat → Nat → Nat → Int} {L L2 : Nat → List Nat} {n n2 c p fl : Nat} {D : Nat → Prop}
/-- Where entries lie to each other. -/
structure Geo (s : Av) : Prop where
  kid : ∀ c p, c < 320 → (s.hd c).typ ≠ 0 → IsReg s p → (s.hd c).par = (p : Int) → (s.hd p).bas ≤ (s.hd c).bas ∧ (s.hd c).bas + (s.hd c).siz ≤ (s.hd p).bas + (s.hd p).siz
  sib : ∀ c d, c < 320 → d < 320 → c ≠ d → (s.hd c).typ ≠ 0 → (s.hd d).typ ≠ 0 → (s.hd c).par = (s.hd d).par → (s.hd c).bas + (s.hd c).siz ≤ (s.hd d).bas ∨ (s.hd d).bas + (s.hd d).siz ≤ (s.hd c).bas
  lim : ∀ c, c < 320 → (s.hd c).typ ≠ 0 → 0 ≤ (s.hd c).bas ∧ 0 < (s.hd c).siz ∧ (s.hd c).bas + (s.hd c).siz ≤ 281474976710656
theorem geo_s (hX : IX s tl L n) (hI : IV s tl L n) : Geo s := by
  refine ⟨fun c p hc ht hp e => ?_, fun c d hc hd hne ht ht' e => ?_, hX.gm.lim⟩
  · rcases par_some hI hc ht with q | ⟨q, hq, e2, hm⟩
    · have := hp.2.1
      omega
    · have : q = p := by omega
      subst this
      exact kid_in hX hI hq hm
  · rcases par_some hI hc ht with q | ⟨q, hq, e2, hm⟩
    · obtain ⟨i, hi, ei⟩ := hI.ro.all c hc ht q
      obtain ⟨j, hj, ej⟩ := hI.ro.all d hd ht' (by rw [← e]; exact q)
      rcases Nat.lt_trichotomy i j with k | k | k
      · exact Or.inl (hX.gm.rts i j c d k hj ei ej)
      · subst k
        rw [ei] at ej
        omega
      · exact Or.inr (hX.gm.rts j i d c k hi ej ei)
    · rcases par_some hI hd ht' with q' | ⟨q', hq', e2', hm'⟩
      · have := hq.2.1
        omega
      · have : q' = q := by omega
        subst this
        have hs := (hX.gm.chn q' hq').1.sorted (hX.pos hI hq')
        obtain ⟨i, hi, ei⟩ := List.mem_iff_getElem.1 hm
        obtain ⟨j, hj, ej⟩ := List.mem_iff_getElem.1 hm'
        rw [List.pairwise_iff_getElem] at hs
        rcases Nat.lt_trichotomy i j with k | k | k
        · have := hs i j hi hj k
          rw [ei, ej] at this
          exact Or.inl this
        · subst k
          exact absurd (ei.symm.trans ej) hne
        · have := hs j i hj hi k
          rw [ei, ej] at this
          exact Or.inr this
theorem Geo.congr (h : Geo s) (e : ∀ x, x < 320 → (s1.hd x).typ = (s.hd x).typ ∧ ((s.hd x).typ ≠ 0 → (s1.hd x).par = (s.hd x).par ∧ (s1.hd x).bas = (s.hd x).bas ∧ (s1.hd x).siz = (s.hd x).siz)) : Geo s1 := by
  refine ⟨fun c p hc ht hp q => ?_, fun c d hc hd hne ht ht' q => ?_, fun c hc ht => ?_⟩
  · obtain ⟨a1, a2⟩ := e c hc
    obtain ⟨b1, b2⟩ := e p hp.2.1
    rw [a1] at ht
    have hp' : IsReg s p := ⟨hp.1, hp.2.1, by rw [← b1]; exact hp.2.2⟩
    obtain ⟨a3, a4, a5⟩ := a2 ht
    obtain ⟨b3, b4, b5⟩ := b2 (by rw [hp'.2.2]; decide)
    rw [a4, a5, b4, b5]
    exact h.kid c p hc ht hp' (by rw [← a3]; exact q)
  · obtain ⟨a1, a2⟩ := e c hc
    obtain ⟨b1, b2⟩ := e d hd
    rw [a1] at ht
    rw [b1] at ht'
    obtain ⟨a3, a4, a5⟩ := a2 ht
    obtain ⟨b3, b4, b5⟩ := b2 ht'
    rw [a4, a5, b4, b5]
    exact h.sib c d hc hd hne ht ht' (by rw [← a3, ← b3]; exact q)
  · obtain ⟨a1, a2⟩ := e c hc
    rw [a1] at ht
    obtain ⟨a3, a4, a5⟩ := a2 ht
    rw [a4, a5]
    exact h.lim c hc ht
theorem Dx.geo (h : Dx 320 fl s ws s1 tl1 ws1) (hX : IX s tl L n) (hI : IV s tl L n) : Geo s1 :=
  (geo_s hX hI).congr (fun x hx => ⟨h.de.shw.typ x hx, fun ht => ⟨h.de.shw.par x hx ht, (h.bs x hx ht).1, (h.bs x hx ht).2⟩⟩)
theorem Hsm.geo (h : Hsm s1 s2) (k : Geo s1) : Geo s2 := k.congr (fun x hx => by
  obtain ⟨_, a2, _, a4, a5, a6⟩ := h x hx
  exact ⟨a2, fun _ => ⟨a4, a5, a6⟩⟩)
theorem lt_bas (h : ltF s1 c p = false) : (s1.hd p).bas ≤ (s1.hd c).bas := by
  unfold ltF at h
  by_cases e : (s1.hd c).bas = (s1.hd p).bas
  · omega
  · rw [if_neg e] at h
    have := of_decide_eq_false h
    omega
/-- What comes before lies before. -/
theorem geo_before (h : Geo s1) {a : Nat} (hc : c < 320) (ha : a < 320) (hne : a ≠ c) (ht : (s1.hd c).typ ≠ 0) (hta : (s1.hd a).typ ≠ 0) (hp : (s1.hd a).par = (s1.hd c).par) (hl : ltF s1 c a = false) : (s1.hd a).bas + (s1.hd a).siz ≤ (s1.hd c).bas := by
  have h1 := lt_bas hl
  have h2 := (h.lim c hc ht).2.1
  rcases h.sib a c ha hc hne hta ht hp with q | q
  · exact q
  · omega
theorem link_top (hV : IVd s2 tl1 D L2 n2) (hG : Gm s2 L2 n2) (hs : Hsm s1 s2) (hg : Geo s1) (hp : IsReg s1 p) (hc : c < 320) (ht : (s1.hd c).typ ≠ 0) (hpar : (s1.hd c).par = (p : Int)) (hD : ¬ D c) (hl : ∀ a, D a → ltF s1 c a = false) :
    (s2.rg (p - 256)).top ≤ (s2.hd c).bas ∧ (s2.hd c).bas + (s2.hd c).siz ≤ (s2.hd p).bas + (s2.hd p).siz := by
  have hp2 := hs.reg.2 hp
  obtain ⟨k1, k2⟩ := hg.kid c p hc ht hp hpar
  obtain ⟨_, _, _, _, c5, c6⟩ := hs c hc
  obtain ⟨_, _, _, _, p5, p6⟩ := hs p hp.2.1
  refine ⟨?_, by rw [c5, c6, p5, p6]; exact k2⟩
  have ch := (hG.chn p hp2).1
  rcases snoc_cases (L2 p) with e | ⟨m, a, e⟩
  · rw [e] at ch
    have : (s2.rg (p - 256)).top = (s2.hd p).bas := ch
    rw [this, p5, c5]
    exact k1
  · have hm : a ∈ L2 p := by rw [e]; simp
    rw [e] at ch
    rw [ch.end]
    obtain ⟨a1, a2, a3⟩ := hV.tr.mem hp2 hm
    have a4 := hV.tr.sub p hp2 a hm
    obtain ⟨_, b2, _, b4, b5, b6⟩ := hs a a1
    rw [b5, b6, c5]
    exact geo_before hg hc a1 (fun q => hD (q ▸ a4)) ht (by rw [← b2]; exact a2) (by rw [← b4, a3, hpar]) (hl a a4)
theorem link_last (hV : IVd s2 tl1 D L2 n2) (hs : Hsm s1 s2) (hg : Geo s1) (hc : c < 320) (ht : (s1.hd c).typ ≠ 0) (hpar : (s1.hd c).par = 65535) (hD : ¬ D c) (hl : ∀ a, D a → ltF s1 c a = false) {i d : Nat} (hi : i < n2) (ed : s2.rts i = (d : Int)) :
    (s2.hd d).bas + (s2.hd d).siz ≤ (s2.hd c).bas := by
  obtain ⟨r1, r2, r3, _⟩ := hV.ro.reg i d hi ed
  obtain ⟨_, _, _, _, c5, c6⟩ := hs c hc
  obtain ⟨_, b2, _, b4, b5, b6⟩ := hs d r1.2.1
  rw [b5, b6, c5]
  exact geo_before hg hc r1.2.1 (fun q => hD (q ▸ r2)) ht (by rw [← b2, r1.2.2]; decide) (by rw [← b4, r3, hpar]) (hl d r2)
/-- One entry more hangs at its region, exactly. -/
theorem link_att_x (hV : IVd s2 tl1 D L2 n2) (hG : Gm s2 L2 n2) (hC : Ct s2 tl1 D) (hs : Hsm s1 s2) (hg : Geo s1) (hp : IsReg s1 p) (hc : c < 320) (ht : (s1.hd c).typ ≠ 0) (hpar : (s1.hd c).par = (p : Int)) (hD : ¬ D c) (hl : ∀ a, D a → ltF s1 c a = false) :
    ∃ L', IVd (attS s2 p c) tl1 (fun x => D x ∨ x = c) L' n2 ∧ Gm (attS s2 p c) L' n2 ∧ Ct (attS s2 p c) tl1 (fun x => D x ∨ x = c) ∧ Hsm s1 (attS s2 p c) := by
  obtain ⟨_, _, hS', hlst⟩ := link_att hV hs hp hc ht hpar hD
  have hp2 := hs.reg.2 hp
  have ht2 : (s2.hd c).typ ≠ 0 := by rw [(hs c hc).2.1]; exact ht
  obtain ⟨k1, k2⟩ := link_top hV hG hs hg hp hc ht hpar hD hl
  have ha : Ali (s2.hd c) := hG.ali c hc ht2 (by rw [(hs c hc).2.2.2.1, hpar]; have := hp.2.1; omega)
  exact ⟨_, hV.att hp2 hc ht2 hD hlst, hG.att hp2 hc ht2 hlst k1 k2 ha, hC.att hp.2.1 hlst hD, hS'⟩
/-- One root more, exactly. -/
theorem link_ins_x (hV : IVd s2 tl1 D L2 n2) (hG : Gm s2 L2 n2) (hC : Ct s2 tl1 D) (hs : Hsm s1 s2) (hg : Geo s1) (hreg : IsReg s1 c) (hpar : (s1.hd c).par = 65535) (hD : ¬ D c) (hl : ∀ a, D a → ltF s1 c a = false) :
    n2 < 64 ∧ IVd (insS s2 n2 c n2) tl1 (fun x => D x ∨ x = c) L2 (n2 + 1) ∧ Gm (insS s2 n2 c n2) L2 (n2 + 1) ∧ Ct (insS s2 n2 c n2) tl1 (fun x => D x ∨ x = c) ∧ Hsm s1 (insS s2 n2 c n2) := by
  have hc := hreg.2.1
  have ht : (s1.hd c).typ ≠ 0 := by rw [hreg.2.2]; decide
  obtain ⟨_, _, _, c4, c5, c6⟩ := hs c hc
  obtain ⟨a1, a2, a3⟩ := link_ins hV hs hreg hpar (hg.lim c hc ht) hD (fun d h0 ed => by
    have := link_last hV hs hg hc ht hpar hD hl (i := n2 - 1) (by omega) ed
    rw [c5] at this
    exact this)
  exact ⟨a1, a2, hG.ins (Nat.le_refl _) (fun i d hi ed => link_last hV hs hg hc ht hpar hD hl hi ed) (fun i d h1 h2 => absurd h1 (by omega)), hC.ins hc (by rw [c4]; exact hpar) hD, a3⟩
/-- What is observed in the end. -/
theorem link_ob (h : Dx 320 fl s ws s1 tl1 ws1) (hs : Hsm s1 s2) (hG : Gm s2 L2 n2) (hX : IX s tl L n) (hI : IV s tl L n) : ob s2 ws1 = ob s ws := by
  funext x
  by_cases hx : x < 320
  · rw [ob_at _ _ hx, ob_at _ _ hx]
    obtain ⟨a1, a2, a3, a4, a5, a6⟩ := hs x hx
    have b1 := h.de.shw.gen x hx
    have b2 := h.de.shw.typ x hx
    have e1 : (s2.hd x).gen = (s.hd x).gen := a1.trans b1
    have e2 : (s2.hd x).typ = (s.hd x).typ := a2.trans b2
    by_cases ht : (s.hd x).typ = 0
    · obtain ⟨f1, f2, f3⟩ := hX.gm.fre x hx ht
      obtain ⟨g1, g2, g3⟩ := hG.fre x hx (by rw [e2]; exact ht)
      have w1 : wdsOf (s2.hd x) ws1 = wdsOf (s.hd x) ws := by
        unfold wdsOf
        rw [if_pos (by rw [e2, ht]; decide), if_pos (by rw [ht]; decide)]
      rw [w1, e1, e2, f1, f2, f3, g1, g2, g3]
    · have w1 : wdsOf (s2.hd x) ws1 = wdsOf (s.hd x) ws := by
        unfold wdsOf
        by_cases q : (s.hd x).typ < 2
        · rw [if_pos (by rw [e2]; exact q), if_pos q]
        · rw [if_neg (by rw [e2]; exact q), if_neg q, e2, a3]
          obtain ⟨k, ek, k7, _⟩ := hI.ge.typ x hx
          have k2 : 2 ≤ k := by omega
          have ek' : (s.hd x).typ = ((k - 2 + 2 : Nat) : Int) := by rw [ek]; omega
          rw [ek, Int.toNat_natCast]
          exact wlist_congr (fun f hf => h.de.shw.pay x (k - 2) hx (by omega) ek' f hf)
      rw [w1, e1, e2, a4, a5, a6, h.de.shw.par x hx ht, (h.bs x hx ht).1, (h.bs x hx ht).2]
  · rw [ob_out _ _ hx, ob_out _ _ hx]
end
end Go.Proofs.Qxb6500847aGreatDoor.Os
