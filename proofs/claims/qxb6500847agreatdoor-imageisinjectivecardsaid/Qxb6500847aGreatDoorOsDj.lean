/-
  Decode, plain: the tree is built anew.
-/
import Derived.Test.Qxb6500847aGreatDoorOsDf
import Derived.Test.Qxb6500847aGreatDoorOsDh
namespace Go.Proofs.Qxb6500847aGreatDoor.Os
open Go.RowKit FloorA
set_option maxRecDepth 100000
section
variable {s s1 s2 : Av} {tl1 : Nat → List Int} {D : Nat → Prop} {L : Nat → List Nat} {n c p : Nat} {r : Nat → Nat}
/-- The headers, but for the links, are the same. -/
def Hsm (s1 s2 : Av) : Prop := ∀ x, x < 320 → (s2.hd x).gen = (s1.hd x).gen ∧ (s2.hd x).typ = (s1.hd x).typ ∧ (s2.hd x).row = (s1.hd x).row ∧ (s2.hd x).par = (s1.hd x).par ∧ (s2.hd x).bas = (s1.hd x).bas ∧ (s2.hd x).siz = (s1.hd x).siz
theorem Hsm.refl (s : Av) : Hsm s s := fun _ _ => ⟨rfl, rfl, rfl, rfl, rfl, rfl⟩
theorem Hsm.trans {a b d : Av} (h : Hsm a b) (k : Hsm b d) : Hsm a d := fun x hx => by
  obtain ⟨a1, a2, a3, a4, a5, a6⟩ := h x hx
  obtain ⟨b1, b2, b3, b4, b5, b6⟩ := k x hx
  exact ⟨b1.trans a1, b2.trans a2, b3.trans a3, b4.trans a4, b5.trans a5, b6.trans a6⟩
theorem Hsm.reg (h : Hsm s1 s2) {p : Nat} : IsReg s2 p ↔ IsReg s1 p := ⟨fun q => ⟨q.1, q.2.1, by rw [← (h p q.2.1).2.1]; exact q.2.2⟩, fun q => ⟨q.1, q.2.1, by rw [(h p q.2.1).2.1]; exact q.2.2⟩⟩
theorem Hsm.pt (h : Hsm s1 s2) (hp : Pt s1 r) : Pt s2 r :=
  ⟨fun x hx ht => by
    obtain ⟨_, h2, _, h4, _⟩ := h x hx
    rw [h4]
    exact (hp.par x hx (by rw [← h2]; exact ht)).imp id (fun ⟨p, q, e⟩ => ⟨p, h.reg.2 q, e⟩), fun c p hc ht he hp' => by
    obtain ⟨_, h2, _, h4, _⟩ := h c hc
    exact hp.rk c p hc (by rw [← h2]; exact ht) (by rw [← h4]; exact he) hp'⟩
theorem whN_congr {a b : Hd} (h1 : a.par = b.par) (h2 : a.typ = b.typ) (h3 : a.bas = b.bas) (h4 : a.siz = b.siz) : whN a = whN b := by unfold whN; rw [h1, h2, h3, h4]
theorem Hsm.shw {ws ws1 : Nat → Nat → Nat → Int} (h : Hsm s1 s2) (k : Shw 320 s s1 ws ws1) : Shw 320 s s2 ws ws1 :=
  ⟨fun i hi => (h i hi).1.trans (k.gen i hi), fun i hi => (h i hi).2.1.trans (k.typ i hi), fun i hi ht => (whN_congr (h i hi).2.2.2.1 (h i hi).2.1 (h i hi).2.2.2.2.1 (h i hi).2.2.2.2.2).trans (k.whr i hi ht), fun i hi ht => (h i hi).2.2.2.1.trans (k.par i hi ht), fun i t hi t6 hty f hf => by rw [(h i hi).2.2.1]; exact k.pay i t hi t6 hty f hf⟩
/-- One entry more hangs at its region. -/
theorem link_att (h : IVd s2 tl1 D L n) (hs : Hsm s1 s2) (hp : IsReg s1 p) (hc : c < 320) (ht : (s1.hd c).typ ≠ 0) (hpar : (s1.hd c).par = (p : Int)) (hD : ¬ D c) : ∃ L', IVd (attS s2 p c) tl1 (fun x => D x ∨ x = c) L' n ∧ Hsm s1 (attS s2 p c) ∧ (s2.rg (p - 256)).lst.toNat ≠ c := by
  have hl : (s2.rg (p - 256)).lst.toNat ≠ c := fun e => by
    have hp2 := hs.reg.2 hp
    rw [h.tr.lst p hp2] at e
    by_cases q : L p = []
    · rw [q] at e
      have : c = 65535 := by rw [← e]; rfl
      omega
    · obtain ⟨d, hd, e2⟩ := (h.tr.lk p hp2).lOr_lt q
      rw [e2, Int.toNat_natCast] at e
      exact hD (by rw [← e]; exact h.tr.sub p hp2 d hd)
  refine ⟨_, h.att (hs.reg.2 hp) hc (by rw [(hs c hc).2.1]; exact ht) hD hl, hs.trans (fun x hx => ?_), hl⟩
  obtain ⟨a1, a2, a3, a4, a5, a6⟩ := att_hd s2 p c x
  refine ⟨a1, a2, a3, ?_, a4, a5⟩
  by_cases q : x = c
  · subst q
    rw [att_par s2 hl, (hs x hx).2.2.2.1, hpar]
  · exact a6 q
/-- One root more. -/
theorem link_ins (h : IVd s2 tl1 D L n) (hs : Hsm s1 s2) (hreg : IsReg s1 c) (hpar : (s1.hd c).par = 65535) (hb : 0 ≤ (s1.hd c).bas ∧ 0 < (s1.hd c).siz ∧ (s1.hd c).bas + (s1.hd c).siz ≤ 281474976710656) (hD : ¬ D c) (hlast : ∀ d : Nat, 0 < n → s2.rts (n - 1) = (d : Int) → (s2.hd d).bas + (s2.hd d).siz ≤ (s1.hd c).bas) : n < 64 ∧ IVd (insS s2 n c n) tl1 (fun x => D x ∨ x = c) L (n + 1) ∧ Hsm s1 (insS s2 n c n) := by
  have hc := hreg.2.1
  have n64 := h.ro.room hreg.1 hc hD
  obtain ⟨_, _, _, e4, e5, e6⟩ := hs c hc
  refine ⟨n64, h.ins n64 (Nat.le_refl _) (hs.reg.2 hreg) (by rw [e4]; exact hpar) (by rw [e5, e6]; exact hb) (fun i hi => ?_) (fun i h1 h2 => absurd h1 (by omega)), hs.trans (fun _ _ => ⟨rfl, rfl, rfl, rfl, rfl, rfl⟩)⟩
  obtain ⟨d, hd, ed⟩ := h.ro.rts.lt (n - 1) (by omega)
  obtain ⟨_, _, _, q4, q5, q6⟩ := h.ro.reg (n - 1) d (by omega) ed
  have k1 := hlast d (by omega) ed
  have e1 : rbas s2 (n - 1) = (s2.hd d).bas := by unfold rbas; rw [ed]; rfl
  rw [e5]
  rcases Nat.lt_or_ge i (n - 1) with k | k
  · have := h.ro.rts.sorted i (n - 1) k (by omega)
    omega
  · have : i = n - 1 := by omega
    rw [this]
    omega
theorem link_end (h : IVd s2 tl1 D L n) (hs : Hsm s1 s2) (hp : Pt s1 r) (hD : ∀ x, x < 320 → (D x ↔ (s1.hd x).typ ≠ 0)) : IV s2 tl1 L n :=
  h.toIV (hs.pt hp).rk (fun x hx => by
    rw [hD x hx]
    show _ ↔ (s2.hd x).typ ≠ 0
    rw [(hs x hx).2.1])
/-- The live entries below k. -/
def lvL (s : Av) : Nat → List Nat
  | 0 => []
  | k + 1 => if (s.hd k).typ = 0 then lvL s k else lvL s k ++ [k]
theorem lvL_mem (s : Av) : ∀ k x, x ∈ lvL s k ↔ x < k ∧ (s.hd x).typ ≠ 0
  | 0, x => by simp [lvL]
  | k + 1, x => by
    unfold lvL
    have ih := lvL_mem s k x
    by_cases e : (s.hd k).typ = 0
    · rw [if_pos e, ih]
      refine ⟨fun q => ⟨by omega, q.2⟩, fun q => ⟨?_, q.2⟩⟩
      rcases Nat.lt_or_ge x k with h | h
      · exact h
      · exact absurd e (by rw [show k = x by omega]; exact q.2)
    · rw [if_neg e, List.mem_append, ih, List.mem_singleton]
      refine ⟨fun q => q.elim (fun q => ⟨by omega, q.2⟩) (fun q => by subst q; exact ⟨by omega, e⟩), fun q => ?_⟩
      rcases Nat.lt_or_ge x k with h | h
      · exact Or.inl ⟨h, q.2⟩
      · exact Or.inr (by omega)
theorem lvL_nodup (s : Av) : ∀ k, (lvL s k).Nodup
  | 0 => List.nodup_nil
  | k + 1 => by
    unfold lvL
    split
    · exact lvL_nodup s k
    · refine List.nodup_append.2 ⟨lvL_nodup s k, List.nodup_cons.2 ⟨by simp, List.nodup_nil⟩, fun a ha b hb e => ?_⟩
      rw [List.mem_singleton] at hb
      have := (lvL_mem s k a).1 ha
      omega
theorem lvL_len (s : Av) : ∀ k, (lvL s k).length ≤ k
  | 0 => Nat.le_refl _
  | k + 1 => by
    unfold lvL
    have := lvL_len s k
    split
    · omega
    · rw [List.length_append]
      simp
      omega
end
end Go.Proofs.Qxb6500847aGreatDoor.Os
