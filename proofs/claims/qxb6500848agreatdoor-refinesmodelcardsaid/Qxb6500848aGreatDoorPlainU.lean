/-
  The plain side: Antimirov's derivatives are a set without None, no more than the leaves; a derivative of a plain regex is plain.
-/
import Derived.Test.Qxb6500848aGreatDoorPlainT
namespace Go.Proofs.Qxb6500848aGreatDoor.Pl

theorem setOf_rising2 (l : List Int) : (setOf l).Pairwise (· < ·) := by
  unfold setOf Lib.compact
  refine compactUpTo_rising _ (fun i j hij hj => ?_) _ (by simp)
  by_cases e : i = j
  · subst e; exact Int.le_refl _
  · have hs := srt_sorted l
    have h1 : i < (srt l).length := by simp at hj; omega
    have h2 : j < (srt l).length := by simpa using hj
    have := List.pairwise_iff_getElem.1 hs i j h1 h2 (by omega)
    simpa [h1, h2] using this
theorem setOf_len2 (l : List Int) : (setOf l).length ≤ l.length := nodup_sub (rising_nodup (setOf_rising2 l)) (fun _ h => mem_setOf.1 h)

theorem concat_nz {A : List Nd} (hA : Wf A) {x y z : Int} (h : Val A (concatN x y) z) (hx : x ≠ 0) (hy : y ≠ 0) : z ≠ 0 := by
  unfold concatN at h
  rw [if_neg (fun e => e.elim hx hy)] at h
  split at h
  · rw [← h.1]; exact hy
  · split at h
    · rw [← h.1]; exact hx
    · intro e
      have := h.2
      rw [e, hA.at0] at this
      simp [noneNd] at this
theorem Thens.nz {A : List Nd} (hA : Wf A) {l : List Int} {t : Int} {qs : List Int} (h : Thens A l t qs) (hl : ∀ p ∈ l, p ≠ 0) (ht : t ≠ 0) : ∀ q ∈ qs, q ≠ 0 := fun q hq => by
  obtain ⟨i, hi, rfl⟩ := List.getElem_of_mem hq
  have hi' : i < l.length := by have := h.1; omega
  exact concat_nz hA (h.2 i hi' hi) (hl _ (List.getElem_mem hi')) ht
theorem rest_nz {A : List Nd} (hA : Wf A) {x : Int} (hx : Valid A x) (h9 : (nodeAt A x).kind = 9) {r : Int}
    (hr : Val A (loopN A (kid (nodeAt A x) 0) (max ((nodeAt A x).lo - 1) 0) (if (nodeAt A x).hi = -1 then -1 else (nodeAt A x).hi - 1)) r) : r ≠ 0 := by
  have hlp := (hA.at hx).loop h9
  have hl := len1 hA hx (Or.inr (Or.inr h9))
  have hnm := ((hA.at hx).nrm.lop h9).1 (kid (nodeAt A x) 0) (getD_mem (by omega))
  generalize kid (nodeAt A x) 0 = k at *
  obtain ⟨lo', elo⟩ : ∃ lo', lo' = max ((nodeAt A x).lo - 1) 0 := ⟨_, rfl⟩
  obtain ⟨hi', ehi⟩ : ∃ hi', hi' = if (nodeAt A x).hi = -1 then -1 else (nodeAt A x).hi - 1 := ⟨_, rfl⟩
  have hlh : ¬ (hi' ≠ -1 ∧ lo' > hi') := by
    rw [elo, ehi]
    split <;> omega
  rw [← elo, ← ehi] at hr
  unfold loopN at hr
  rw [if_neg hlh] at hr
  have nn : ∀ n : Nd, n.kind ≠ 0 → nodeAt A r = n → r ≠ 0 := fun n hn e e0 => by
    rw [e0, hA.at0] at e
    rw [← e] at hn
    exact hn rfl
  split at hr
  · rw [← hr.1]; decide
  · rw [if_neg (fun e => hnm.1 e.1), if_neg hnm.1, if_neg (fun e => e.elim hnm.2.2.1 hnm.2.2.2)] at hr
    split at hr
    · rw [← hr.1]; exact hnm.1
    · split at hr
      · unfold starN at hr
        rw [if_neg (fun e => e.elim hnm.1 hnm.2.1), if_neg (fun e => e.elim hnm.2.2.1 hnm.2.2.2)] at hr
        split at hr
        · rw [← hr.1]; decide
        · exact nn _ (by simp) hr.2
      · exact nn _ (by simp) hr.2

/-- A set without None, no more than the leaves. -/
theorem Par.facts {A : List Nd} (hA : Wf A) {c x : Int} {z : List Int} (h : Par A c x z) : Valid A x → z.Pairwise (· < ·) ∧ (∀ q ∈ z, q ≠ 0) ∧ z.length ≤ lv A x := by
  induction h with
  | none h => exact fun _ => ⟨List.Pairwise.nil, (fun q hq => by cases hq), Nat.zero_le _⟩
  | @all x h =>
    intro hx
    have e : lf (nodeAt A x) = 1 := by unfold lf; rw [if_pos (Or.inl h)]
    exact ⟨by simp, (fun q hq => by rw [List.mem_singleton.1 hq]; decide), by rw [lv_unfold hA hx]; simp; omega⟩
  | @cls x z h hz =>
    intro hx
    have e : lf (nodeAt A x) = 1 := by unfold lf; rw [if_pos (Or.inr h)]
    have hl : 1 ≤ lv A x := by rw [lv_unfold hA hx]; omega
    subst hz
    split
    · exact ⟨by simp, (fun q hq => by rw [List.mem_singleton.1 hq]; decide), by simpa using hl⟩
    · exact ⟨List.Pairwise.nil, (fun q hq => by cases hq), Nat.zero_le _⟩
  | @cat1 x l qs z h hd hn ht hz ih =>
    intro hx
    have hl := len2 hA hx h
    obtain ⟨i1, i2, i3⟩ := ih (kid_valid hA hx (by omega)).1
    have hc := (hA.at hx).nrm.cat h (kid (nodeAt A x) 1) (getD_mem (by omega))
    have hs := setOf_len2 qs
    have hq := ht.1
    have hm0 : kid (nodeAt A x) 0 ∈ (nodeAt A x).kids := getD_mem (by omega)
    have hk := sum_mem (f := lv A) hm0
    have e := lv_unfold hA hx
    subst hz
    exact ⟨setOf_rising2 _, fun q hq' => ht.nz hA i2 hc.1 q (mem_setOf.1 hq'), by omega⟩
  | @cat2 x l qs l2 z h hd hn ht he hz ih ih2 =>
    intro hx
    have hl := len2 hA hx h
    obtain ⟨i1, i2, i3⟩ := ih (kid_valid hA hx (by omega)).1
    obtain ⟨j1, j2, j3⟩ := ih2 (kid_valid hA hx (by omega)).1
    have hc := (hA.at hx).nrm.cat h (kid (nodeAt A x) 1) (getD_mem (by omega))
    have hs := setOf_len2 (qs ++ l2)
    have hq := ht.1
    obtain ⟨a, b, ek⟩ := (hA.at hx).two h
    have k0 : kid (nodeAt A x) 0 = a := by unfold kid; rw [ek]; rfl
    have k1 : kid (nodeAt A x) 1 = b := by unfold kid; rw [ek]; rfl
    have e := lv_unfold hA hx
    rw [ek] at e
    rw [k0] at i3
    rw [k1] at j3
    simp only [List.map_cons, List.map_nil, List.sum_cons, List.sum_nil] at e
    rw [List.length_append] at hs
    subst hz
    refine ⟨setOf_rising2 _, fun q hq' => ?_, by omega⟩
    rcases List.mem_append.1 (mem_setOf.1 hq') with h | h
    · exact ht.nz hA i2 hc.1 q h
    · exact j2 q h
  | @uni x z h ls hl hd hz ih =>
    intro hx
    have hi := fun i (h1 : i < ls.length) => ih i h1 (kid_valid hA hx (by omega)).1
    have e := lv_unfold hA hx
    have hs := setOf_len2 ls.flatten
    have hsum : ∀ (l : List (List Int)) (m : List Int), l.length = m.length → (∀ i (h1 : i < l.length) (h2 : i < m.length), (l[i]).length ≤ lv A m[i]) → l.flatten.length ≤ (m.map (lv A)).sum := by
      intro l
      induction l with
      | nil => intro m _ _; exact Nat.zero_le _
      | cons a l ih3 =>
        intro m hlm hh
        cases m with
        | nil => simp at hlm
        | cons b m =>
          have h1 := hh 0 (by simp) (by simp)
          have h2 := ih3 m (by simpa using hlm) (fun i q1 q2 => by have := hh (i + 1) (by simpa using q1) (by simpa using q2); simpa using this)
          simp only [List.getElem_cons_zero] at h1
          rw [List.flatten_cons, List.length_append, List.map_cons, List.sum_cons]
          omega
    have h3 := hsum ls (nodeAt A x).kids hl (fun i h1 h2 => by
      have := (hi i h1).2.2
      have e : kid (nodeAt A x) i = (nodeAt A x).kids[i] := getD_lt h2 _
      rwa [getD_lt h1, e] at this)
    subst hz
    refine ⟨setOf_rising2 _, fun q hq => ?_, by omega⟩
    obtain ⟨l, hl', hq⟩ := List.mem_flatten.1 (mem_setOf.1 hq)
    obtain ⟨i, hi', rfl⟩ := List.getElem_of_mem hl'
    have := (hi i hi').2.1
    rw [getD_lt hi'] at this
    exact this q hq
  | dead h hd ih => exact fun _ => ⟨List.Pairwise.nil, (fun q hq => by cases hq), Nat.zero_le _⟩
  | @star x l qs z h hd h0 ht hz ih =>
    intro hx
    have hl := len1 hA hx (Or.inr (Or.inl h))
    obtain ⟨i1, i2, i3⟩ := ih (kid_valid hA hx (by omega)).1
    have hs := setOf_len2 qs
    have hq := ht.1
    have hm0 : kid (nodeAt A x) 0 ∈ (nodeAt A x).kids := getD_mem (by omega)
    have hk := sum_mem (f := lv A) hm0
    have e := lv_unfold hA hx
    subst hz
    exact ⟨setOf_rising2 _, fun q hq' => ht.nz hA i2 (fun e0 => by rw [e0, hA.at0] at h; cases h) q (mem_setOf.1 hq'), by omega⟩
  | @loop x l r qs z h hd h0 hr ht hz ih =>
    intro hx
    have hl := len1 hA hx (Or.inr (Or.inr h))
    obtain ⟨i1, i2, i3⟩ := ih (kid_valid hA hx (by omega)).1
    have hs := setOf_len2 qs
    have hq := ht.1
    have hm0 : kid (nodeAt A x) 0 ∈ (nodeAt A x).kids := getD_mem (by omega)
    have hk := sum_mem (f := lv A) hm0
    have e := lv_unfold hA hx
    subst hz
    exact ⟨setOf_rising2 _, fun q hq' => ht.nz hA i2 (rest_nz hA hx h hr) q (mem_setOf.1 hq'), by omega⟩

theorem unionN_plain {A : List Nd} (hA : Wf A) {xs : List Int} (hp : ∀ x ∈ xs, PlainR A x) : NfPl A (unionN A xs) := by
  have hf : ∀ q ∈ flat A 5 0 xs, PlainR A q := fun q hq => by
    obtain ⟨x, hx, hh⟩ := flat_mem hq
    rcases hh with ⟨_, hk⟩ | ⟨_, _, e⟩
    · exact (hp x hx).kid hk
    · rw [e]; exact hp x hx
  unfold unionN
  simp only
  split
  · exact plain2 hA
  · split
    · exact plain0 hA
    · split
      · rename_i h1
        obtain ⟨a, e⟩ := List.length_eq_one_iff.1 h1
        rw [e] at hf ⊢
        exact hf a (by simp)
      · exact ⟨by simp, hf⟩
/-- The derivative of a plain regex is plain. -/
theorem Der.plain {A : List Nd} (hA : Wf A) {c x z : Int} (h : Der A c x z) : Valid A x → PlainR A x → PlainR A z := by
  induction h with
  | none h => exact fun _ _ => plain0 hA
  | all h => exact fun _ _ => plain2 hA
  | cls h hz => intro _ _; rw [hz]; split; exact plain1 hA; exact plain0 hA
  | cat1 h hd hn hv ih =>
    intro hx hp
    have hl := len2 hA hx h
    exact hv.plain (concatN_plain hA (ih (kid_valid hA hx (by omega)).1 (hp.kid (getD_mem (by omega)))) (hp.kid (getD_mem (by omega))))
  | cat2 h hd hn hf he hv ih ih2 =>
    intro hx hp
    have hl := len2 hA hx h
    have p1 := hf.plain (concatN_plain hA (ih (kid_valid hA hx (by omega)).1 (hp.kid (getD_mem (by omega)))) (hp.kid (getD_mem (by omega))))
    have p2 := ih2 (kid_valid hA hx (by omega)).1 (hp.kid (getD_mem (by omega)))
    exact hv.plain (unionN_plain hA (fun q hq => by
      rcases List.mem_cons.1 hq with rfl | hq
      · exact p1
      · rw [List.mem_singleton.1 hq]; exact p2))
  | uni h ds hl hd hv ih =>
    intro hx hp
    refine hv.plain (unionN_plain hA (fun q hq => ?_))
    obtain ⟨i, hi, rfl⟩ := List.getElem_of_mem hq
    have := ih i hi (kid_valid hA hx (by omega)).1 (hp.kid (getD_mem (by omega)))
    rwa [getD_lt hi] at this
  | int h => intro _ hp; exact absurd h (plainR_unfold.1 hp).1.1
  | comp h => intro _ hp; exact absurd h (plainR_unfold.1 hp).1.2
  | dead h hd ih => exact fun _ _ => plain0 hA
  | star h hd h0 hv ih =>
    intro hx hp
    have hl := len1 hA hx (Or.inr (Or.inl h))
    exact hv.plain (concatN_plain hA (ih (kid_valid hA hx (by omega)).1 (hp.kid (getD_mem (by omega)))) hp)
  | loop h hd h0 hr hv ih =>
    intro hx hp
    have hl := len1 hA hx (Or.inr (Or.inr h))
    have hk := hp.kid (getD_mem (i := 0) (by omega : 0 < _))
    exact hv.plain (concatN_plain hA (ih (kid_valid hA hx (by omega)).1 hk) (hr.plain (loopN_plain hA hk)))
end Go.Proofs.Qxb6500848aGreatDoor.Pl
