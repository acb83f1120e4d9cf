/-
  Decode, plain: the listed entries one by one; the floor.
-/
import Derived.Test.Qxb6500847aGreatDoorOsDf
import Derived.Test.Qxb6500847aGreatDoorOsDh
import Derived.Test.Qxb6500847aGreatDoorOsNb
namespace Go.Proofs.Qxb6500847aGreatDoor.Os
open Go.RowKit FloorA
set_option maxRecDepth 100000
section
variable {s s1 : Av} {tl tl1 : Nat → List Int} {ws ws1 : Nat → Nat → Nat → Int} {L : Nat → List Nat} {n : Nat}
/-- The listed entries from i on, d entries, the last listed one below a. -/
def lsF (s : Av) (ws : Nat → Nat → Nat → Int) (fl : Int) : Nat → Nat → Nat → List Nat
  | _, _, 0 => []
  | a, i, d + 1 => if lis s fl i then ([i - a, ((s.hd i).gen - fl).toNat, (s.hd i).typ.toNat] ++ entN s ws i) ++ lsF s ws fl (i + 1) (i + 1) d else lsF s ws fl a (i + 1) d
def lsD (s : Av) (fl : Int) : Nat → Nat → Nat
  | _, 0 => 0
  | i, d + 1 => (if lis s fl i then 1 else 0) + lsD s fl (i + 1) d
theorem lsF_eq (fl : Int) : ∀ d k, lsN s ws fl k ++ lsF s ws fl (lsA s fl k) k d = lsN s ws fl (k + d)
  | 0, k => by simp [lsF]
  | d + 1, k => by
    have ih := lsF_eq fl d (k + 1)
    rw [show k + (d + 1) = k + 1 + d by omega, ← ih]
    have e1 : lsN s ws fl (k + 1) = if lis s fl k then lsN s ws fl k ++ ([k - lsA s fl k, ((s.hd k).gen - fl).toNat, (s.hd k).typ.toNat] ++ entN s ws k) else lsN s ws fl k := rfl
    have e2 : lsA s fl (k + 1) = if lis s fl k then k + 1 else lsA s fl k := rfl
    have e3 : lsF s ws fl (lsA s fl k) k (d + 1) = if lis s fl k then ([k - lsA s fl k, ((s.hd k).gen - fl).toNat, (s.hd k).typ.toNat] ++ entN s ws k) ++ lsF s ws fl (k + 1) (k + 1) d else lsF s ws fl (lsA s fl k) (k + 1) d := rfl
    rw [e1, e2, e3]
    by_cases h : lis s fl k = true
    · rw [if_pos h, if_pos h, if_pos h, List.append_assoc, List.append_assoc, List.append_assoc]
    · rw [if_neg h, if_neg h, if_neg h]
theorem lsD_eq (fl : Int) : ∀ d k, lsC s fl k + lsD s fl k d = lsC s fl (k + d)
  | 0, k => by simp [lsD]
  | d + 1, k => by
    have ih := lsD_eq fl d (k + 1)
    rw [show k + (d + 1) = k + 1 + d by omega, ← ih]
    have e1 : lsD s fl k (d + 1) = (if lis s fl k then 1 else 0) + lsD s fl (k + 1) d := rfl
    have e2 : lsC s fl (k + 1) = lsC s fl k + (if lis s fl k then 1 else 0) := rfl
    rw [e1, e2]
    omega
/-- The next listed entry. -/
theorem lsF_next (fl : Int) (a : Nat) : ∀ d i, lsD s fl i d ≠ 0 → ∃ j, i ≤ j ∧ j < i + d ∧ lis s fl j = true ∧ (∀ x, i ≤ x → x < j → lis s fl x = false) ∧ lsF s ws fl a i d = (j - a) :: ((s.hd j).gen - fl).toNat :: (s.hd j).typ.toNat :: (entN s ws j ++ lsF s ws fl (j + 1) (j + 1) (i + d - (j + 1))) ∧ lsD s fl i d = 1 + lsD s fl (j + 1) (i + d - (j + 1))
  | 0, i, h => absurd rfl h
  | d + 1, i, h => by
    by_cases q : lis s fl i = true
    · refine ⟨i, Nat.le_refl _, by omega, q, fun x h1 h2 => by omega, ?_, ?_⟩
      · rw [lsF, if_pos q, show i + (d + 1) - (i + 1) = d by omega]
        simp
      · rw [lsD, if_pos q, show i + (d + 1) - (i + 1) = d by omega]
    · have e : lsD s fl i (d + 1) = lsD s fl (i + 1) d := by rw [lsD, if_neg q, Nat.zero_add]
      rw [e] at h ⊢
      obtain ⟨j, h1, h2, h3, h4, h5, h6⟩ := lsF_next fl a d (i + 1) h
      refine ⟨j, by omega, by omega, h3, fun x k1 k2 => ?_, ?_, ?_⟩
      · by_cases e : x = i
        · rw [e]; simpa using q
        · exact h4 x (by omega) k2
      · rw [lsF, if_neg q, h5, show i + 1 + d = i + (d + 1) by omega]
      · rw [h6, show i + 1 + d = i + (d + 1) by omega]
theorem lsF_none (fl : Int) (a : Nat) : ∀ d i, lsD s fl i d = 0 → lsF s ws fl a i d = [] ∧ ∀ x, i ≤ x → x < i + d → lis s fl x = false
  | 0, i, _ => ⟨rfl, fun x h1 h2 => by omega⟩
  | d + 1, i, h => by
    rw [lsD] at h
    have q : ¬ lis s fl i = true := fun q => by rw [if_pos q] at h; omega
    rw [if_neg q, Nat.zero_add] at h
    obtain ⟨h1, h2⟩ := lsF_none fl a d (i + 1) h
    refine ⟨by rw [lsF, if_neg q]; exact h1, fun x k1 k2 => ?_⟩
    by_cases e : x = i
    · rw [e]; simpa using q
    · exact h2 x (by omega) (by omega)
/-- The first k entries carry the floor. -/
structure F0 (k fl : Nat) (s1 : Av) : Prop where
  iv : Iv0 s1 tl0
  typ : ∀ i, i < 320 → (s1.hd i).typ = 0
  low : ∀ i, i < k → (s1.hd i).gen = (fl : Int) ∧ (fl ≠ 4294967295 → Idl s1 i)
  up : ∀ i, k ≤ i → i < 320 → Idl s1 i
theorem F0.start {rb sb : Nat → Nat} (h : Fresh s1 rb sb 320) (fl : Nat) : F0 0 fl s1 := by
  have hv := h.iv
  have t0 : ∀ x, x < 320 → (s1.hd x).typ = 0 := fun x hx => by rw [h.hd x hx]; rfl
  refine ⟨Iv0.of hv.ge hv.tb (fun p hp => ?_) h.nrt, t0, fun i hi => absurd hi (Nat.not_lt_zero _), fun i _ hi => (h.idl i hi).2 hi⟩
  have := hp.2.2
  rw [t0 p hp.2.1] at this
  omega
theorem F0.step {k fl : Nat} (h : F0 k fl s1) (hk : k < 320) (f1 : 1 ≤ fl) (f2 : fl < 4294967296) : F0 (k + 1) fl (sfS s1 k (fl : Int)) := by
  have hsm := sf_same s1 k (fl : Int)
  have hiv : Iv0 (sfS s1 k (fl : Int)) tl0 := by
    refine h.iv.hdr (fun x => ?_) (sf_wd h.iv.ge.wd k _) (fun x q => ((sf_idl s1 k _ x).1 q).1) hsm.1 hsm.2.2.1 (fun x hx => ?_)
    · rw [sf_hd]
      split
      · next e => subst e; exact ⟨rfl, rfl, rfl, rfl⟩
      · exact ⟨rfl, rfl, rfl, rfl⟩
    · rw [sf_hd]
      by_cases q : x = k
      · subst q
        rw [if_pos rfl]
        refine ⟨fl, rfl, f1, f2, fun k => ?_⟩
        rcases k with k | k
        · exact absurd (h.typ x hx) k
        · have := (sf_idl s1 x (fl : Int) x).1 k
          by_cases q : fl = 4294967295
          · exact absurd rfl (this.2 (by omega))
          · omega
      · rw [if_neg q]
        obtain ⟨g, e, a1, a2, a3⟩ := h.iv.ge.gen x hx
        exact ⟨g, e, a1, a2, fun m => a3 (m.imp id (fun m => ((sf_idl s1 k _ x).1 m).1))⟩
  refine ⟨hiv, fun i hi => ?_, fun i hi => ?_, fun i h1 h2 => ?_⟩
  · rw [sf_hd]
    split
    · next e => subst e; exact h.typ i hi
    · exact h.typ i hi
  · rw [sf_hd, sf_idl]
    by_cases q : i = k
    · subst q
      rw [if_pos rfl]
      exact ⟨rfl, fun m => ⟨h.up i (Nat.le_refl _) hk, fun e => absurd e (by omega)⟩⟩
    · rw [if_neg q]
      obtain ⟨a1, a2⟩ := h.low i (by omega)
      exact ⟨a1, fun m => ⟨a2 m, fun _ => q⟩⟩
  · rw [sf_idl]
    exact ⟨h.up i (by omega) h2, fun _ => by omega⟩
theorem wr0 : Wr (fun _ _ _ => 0) := fun t _ _ _ => Wq.zero t
theorem F0.de {fl : Nat} (h : F0 320 fl s1) : De 0 fl s ws s1 tl0 (fun _ _ _ => 0) :=
  ⟨h.iv, wr0, ⟨fun _ hi => absurd hi (Nat.not_lt_zero _), fun _ hi => absurd hi (Nat.not_lt_zero _), fun _ hi => absurd hi (Nat.not_lt_zero _), fun _ hi => absurd hi (Nat.not_lt_zero _), fun _ _ hi => absurd hi (Nat.not_lt_zero _)⟩, fun i _ hi => ⟨h.typ i hi, (h.low i hi).1, (h.low i hi).2⟩, fun _ hi => absurd hi (Nat.not_lt_zero _)⟩
/-- Parents and ranks of what is read are those of the store. -/
theorem De.pt {fl : Nat} (h : De 320 fl s ws s1 tl1 ws1) (hI : IV s tl L n) : (∃ r, Pt s1 r) ∧ ∀ i, i < 320 → (s1.hd i).typ ≠ 0 → (s1.hd i).par = 65535 → IsReg s1 i ∧ 0 ≤ (s1.hd i).bas ∧ 0 < (s1.hd i).siz ∧ (s1.hd i).bas + (s1.hd i).siz ≤ 281474976710656 := by
  have live : ∀ x, x < 320 → (s1.hd x).typ ≠ 0 → (s.hd x).typ ≠ 0 := fun x hx ht => by rw [← h.shw.typ x hx]; exact ht
  have reg : ∀ p, IsReg s p → IsReg s1 p := fun p hp => ⟨hp.1, hp.2.1, by rw [h.shw.typ p hp.2.1]; exact hp.2.2⟩
  obtain ⟨r, hr⟩ := hI.rk
  refine ⟨⟨r, fun x hx ht => ?_, fun c p hc ht he hp => ?_⟩, fun i hi ht hp => ⟨?_, h.rts i hi ht hp⟩⟩
  · rw [h.shw.par x hx (live x hx ht)]
    exact (hI.tr.all x hx (live x hx ht)).2.imp id (fun ⟨p, q, e, _⟩ => ⟨p, reg p q, e⟩)
  · exact hr c p hc (live c hc ht) (by rw [← h.shw.par c hc (live c hc ht)]; exact he) hp
  · rw [h.shw.par i hi (live i hi ht)] at hp
    obtain ⟨j, hj, e⟩ := hI.ro.all i hi (live i hi ht) hp
    exact reg i (hI.ro.reg j i hj e).1
end
end Go.Proofs.Qxb6500847aGreatDoor.Os
