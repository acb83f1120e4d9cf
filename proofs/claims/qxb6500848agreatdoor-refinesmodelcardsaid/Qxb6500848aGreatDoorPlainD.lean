/-
  The plain side: Antimirov's derivatives by a word.
-/
import Derived.Test.Qxb6500848aGreatDoorPlainC
namespace Go.Proofs.Qxb6500848aGreatDoor.Pl

def NfPl (A : List Nd) : Nf → Prop
  | .id x => PlainR A x
  | .nd n => (n.kind ≠ 6 ∧ n.kind ≠ 7) ∧ ∀ k ∈ n.kids, PlainR A k
theorem Val.plain {A : List Nd} {nf : Nf} {z : Int} (h : Val A nf z) (hp : NfPl A nf) : PlainR A z := by
  cases nf with
  | id x => rw [← h.1]; exact hp
  | nd n => rw [plainR_unfold, h.2]; exact hp
theorem plainR_leaf {A : List Nd} (hA : Wf A) {x : Int} (hx : Valid A x) (h : (nodeAt A x).kind ≤ 3) : PlainR A x := by
  rw [plainR_unfold, (hA.at hx).nokids h]
  exact ⟨⟨by omega, by omega⟩, fun k hk => by cases hk⟩
theorem plain0 {A : List Nd} (hA : Wf A) : PlainR A 0 := plainR_leaf hA hA.v0 (by rw [hA.at0]; decide)
theorem plain1 {A : List Nd} (hA : Wf A) : PlainR A 1 := plainR_leaf hA hA.v1 (by rw [hA.at1]; decide)
theorem plain2 {A : List Nd} (hA : Wf A) : PlainR A 2 := plainR_leaf hA hA.v2 (by rw [hA.at2]; decide)

theorem concatN_plain {A : List Nd} (hA : Wf A) {x y : Int} (hx : PlainR A x) (hy : PlainR A y) : NfPl A (concatN x y) := by
  unfold concatN
  split
  · exact plain0 hA
  · split
    · exact hy
    · split
      · exact hx
      · refine ⟨⟨by simp, by simp⟩, fun k hk => ?_⟩
        simp at hk
        rcases hk with rfl | rfl
        · exact hx
        · exact hy
theorem starN_plain {A : List Nd} (hA : Wf A) {x : Int} (hx : PlainR A x) : NfPl A (starN A x) := by
  unfold starN
  split
  · exact plain1 hA
  · split
    · exact hx
    · split
      · exact plain2 hA
      · exact ⟨⟨by simp, by simp⟩, fun k hk => by rw [List.mem_singleton.1 hk]; exact hx⟩
theorem loopN_plain {A : List Nd} (hA : Wf A) {x lo hi : Int} (hx : PlainR A x) : NfPl A (loopN A x lo hi) := by
  unfold loopN
  split
  · exact plain0 hA
  · split
    · exact plain1 hA
    · split
      · exact plain1 hA
      · split
        · exact plain0 hA
        · split
          · exact hx
          · split
            · exact hx
            · split
              · exact starN_plain hA hx
              · exact ⟨⟨by simp, by simp⟩, fun k hk => by rw [List.mem_singleton.1 hk]; exact hx⟩
theorem Thens.plain {A : List Nd} (hA : Wf A) {l : List Int} {t : Int} {qs : List Int} (h : Thens A l t qs) (hl : ∀ p ∈ l, PlainR A p) (ht : PlainR A t) : ∀ q ∈ qs, PlainR A q := fun q hq => by
  obtain ⟨i, hi, rfl⟩ := List.getElem_of_mem hq
  have hi' : i < l.length := by have := h.1; omega
  exact (h.2 i hi' hi).plain (concatN_plain hA (hl _ (List.getElem_mem hi')) ht)

/-- What the derivatives of a plain regex hold is plain. -/
theorem Par.plain {A : List Nd} (hA : Wf A) {c x : Int} {z : List Int} (h : Par A c x z) : Valid A x → PlainR A x → ∀ p ∈ z, PlainR A p := by
  induction h with
  | none h => intro _ _ q hq; cases hq
  | all h => intro _ _ q hq; rw [List.mem_singleton.1 hq]; exact plain2 hA
  | cls h hz =>
    intro _ _ q hq
    subst hz
    split at hq
    · rw [List.mem_singleton.1 hq]; exact plain1 hA
    · cases hq
  | cat1 h hd hn ht hz ih =>
    intro hx hp q hq
    subst hz
    have hl := len2 hA hx h
    exact ht.plain hA (ih (kid_valid hA hx (by omega)).1 (hp.kid (getD_mem (by omega)))) (hp.kid (getD_mem (by omega))) q (mem_setOf.1 hq)
  | cat2 h hd hn ht he hz ih ih2 =>
    intro hx hp q hq
    subst hz
    have hl := len2 hA hx h
    rcases List.mem_append.1 (mem_setOf.1 hq) with hq | hq
    · exact ht.plain hA (ih (kid_valid hA hx (by omega)).1 (hp.kid (getD_mem (by omega)))) (hp.kid (getD_mem (by omega))) q hq
    · exact ih2 (kid_valid hA hx (by omega)).1 (hp.kid (getD_mem (by omega))) q hq
  | uni h ls hl hd hz ih =>
    intro hx hp q hq
    subst hz
    obtain ⟨l, hl', hq⟩ := List.mem_flatten.1 (mem_setOf.1 hq)
    obtain ⟨i, hi, rfl⟩ := List.getElem_of_mem hl'
    have := ih i hi (kid_valid hA hx (by omega)).1 (hp.kid (getD_mem (by omega)))
    rw [getD_lt hi] at this
    exact this q hq
  | dead h hd ih => intro _ _ q hq; cases hq
  | star h hd h0 ht hz ih =>
    intro hx hp q hq
    subst hz
    have hl := len1 hA hx (Or.inr (Or.inl h))
    exact ht.plain hA (ih (kid_valid hA hx (by omega)).1 (hp.kid (getD_mem (by omega)))) hp q (mem_setOf.1 hq)
  | loop h hd h0 hr ht hz ih =>
    intro hx hp q hq
    subst hz
    have hl := len1 hA hx (Or.inr (Or.inr h))
    have hk := hp.kid (getD_mem (i := 0) (by omega : 0 < _))
    exact ht.plain hA (ih (kid_valid hA hx (by omega)).1 hk) (hr.plain (loopN_plain hA hk)) q (mem_setOf.1 hq)

/-- One step of a set. -/
def ParS (A : List Nd) (c : Int) (l z : List Int) : Prop := ∃ ls : List (List Int), ls.length = l.length ∧ (∀ i, i < ls.length → Par A c (l.getD i 0) (ls.getD i [])) ∧ z = setOf ls.flatten
inductive ParP (A : List Nd) (x : Int) : Word → List Int → Prop
  | start : ParP A x [] (if x = 0 then [] else [x])
  | step {u : Word} {l z : List Int} {c : Int} (h : ParP A x u l) (hc : 0 ≤ c ∧ c ≤ 196607) (hs : ParS A c l z) : ParP A x (u ++ [c]) z

theorem ParS.mem {A : List Nd} {c : Int} {l z : List Int} (h : ParS A c l z) {q : Int} (hq : q ∈ z) : ∃ p ∈ l, ∃ m, Par A c p m ∧ q ∈ m := by
  obtain ⟨ls, h1, h2, rfl⟩ := h
  obtain ⟨m, hm, hq⟩ := List.mem_flatten.1 (mem_setOf.1 hq)
  obtain ⟨i, hi, rfl⟩ := List.getElem_of_mem hm
  have h3 := h2 i hi
  rw [getD_lt hi, getD_lt (by omega : i < l.length)] at h3
  exact ⟨_, List.getElem_mem (by omega), _, h3, hq⟩
theorem ParS.has {A : List Nd} {c : Int} {l z : List Int} (h : ParS A c l z) {p : Int} (hp : p ∈ l) : ∃ m, Par A c p m ∧ ∀ q ∈ m, q ∈ z := by
  obtain ⟨ls, h1, h2, rfl⟩ := h
  obtain ⟨i, hi, rfl⟩ := List.getElem_of_mem hp
  have h3 := h2 i (by omega)
  rw [getD_lt hi] at h3
  rw [getD_lt (by omega : i < ls.length)] at h3
  exact ⟨_, h3, fun q hq => mem_setOf.2 (List.mem_flatten.2 ⟨_, List.getElem_mem (by omega), hq⟩)⟩
theorem ParS.valid {A : List Nd} (hA : Wf A) {c : Int} {l z : List Int} (h : ParS A c l z) (hv : ∀ p ∈ l, Valid A p) : ∀ q ∈ z, Valid A q := fun q hq => by
  obtain ⟨p, hp, m, h1, h2⟩ := h.mem hq
  exact h1.valid hA (hv p hp) q h2
theorem ParS.plain {A : List Nd} (hA : Wf A) {c : Int} {l z : List Int} (h : ParS A c l z) (hv : ∀ p ∈ l, Valid A p) (hp : ∀ p ∈ l, PlainR A p) : ∀ q ∈ z, PlainR A q := fun q hq => by
  obtain ⟨p, hp', m, h1, h2⟩ := h.mem hq
  exact h1.plain hA (hv p hp') (hp p hp') q h2
theorem ParS.le {A B : List Nd} (hA : Wf A) (hB : Wf B) (hAB : Le A B) {c : Int} {l z : List Int} (h : ParS A c l z) (hv : ∀ p ∈ l, Valid A p) : ParS B c l z := by
  obtain ⟨ls, h1, h2, h3⟩ := h
  refine ⟨ls, h1, fun i hi => (h2 i hi).le hA hB hAB ?_, h3⟩
  rw [getD_lt (by omega : i < l.length)]
  exact hv _ (List.getElem_mem (by omega))
theorem ParS.quot {A : List Nd} (hA : Wf A) {c : Int} {l z : List Int} (h : ParS A c l z) (hv : ∀ p ∈ l, Valid A p) (w : Word) (hw : Alph w) : LangS A z w ↔ LangS A l (c :: w) := by
  constructor
  · rintro ⟨q, hq, hl⟩
    obtain ⟨p, hp, m, h1, h2⟩ := h.mem hq
    exact ⟨p, hp, (h1.quot hA (hv p hp) w hw).1 ⟨q, h2, hl⟩⟩
  · rintro ⟨p, hp, hl⟩
    obtain ⟨m, h1, h2⟩ := h.has hp
    obtain ⟨q, hq, hl'⟩ := (h1.quot hA (hv p hp) w hw).2 hl
    exact ⟨q, h2 q hq, hl'⟩

theorem ParP.valid {A : List Nd} (hA : Wf A) {x : Int} (hx : Valid A x) {u : Word} {l : List Int} (h : ParP A x u l) : ∀ p ∈ l, Valid A p := by
  induction h with
  | start =>
    intro p hp
    split at hp
    · cases hp
    · rw [List.mem_singleton.1 hp]; exact hx
  | step h hc hs ih => exact hs.valid hA ih
theorem ParP.plain {A : List Nd} (hA : Wf A) {x : Int} (hx : Valid A x) (hp : PlainR A x) {u : Word} {l : List Int} (h : ParP A x u l) : ∀ p ∈ l, PlainR A p := by
  induction h with
  | start =>
    intro p hp
    split at hp
    · cases hp
    · rw [List.mem_singleton.1 hp]; assumption
  | step h hc hs ih => exact hs.plain hA (h.valid hA hx) ih
theorem ParP.le {A B : List Nd} (hA : Wf A) (hB : Wf B) (hAB : Le A B) {x : Int} (hx : Valid A x) {u : Word} {l : List Int} (h : ParP A x u l) : ParP B x u l := by
  induction h with
  | start => exact .start
  | step h hc hs ih => exact .step ih hc (hs.le hA hB hAB (h.valid hA hx))
theorem ParP.quot {A : List Nd} (hA : Wf A) {x : Int} (hx : Valid A x) {u : Word} {l : List Int} (h : ParP A x u l) : ∀ w, Alph w → (LangS A l w ↔ lang A x (u ++ w)) := by
  induction h with
  | start =>
    intro w _
    split
    · next h0 =>
      subst h0
      rw [List.nil_append, lang0 hA]
      exact ⟨fun ⟨q, hq, _⟩ => (by cases hq), fun h => h.elim⟩
    · exact ⟨fun ⟨q, hq, h⟩ => (by rw [List.mem_singleton.1 hq] at h; exact h), fun h => ⟨x, List.mem_singleton.2 rfl, h⟩⟩
  | @step u l z c h hc hs ih =>
    intro w hw
    rw [hs.quot hA (h.valid hA hx) w hw, ih (c :: w) (fun q hq => by
      rcases List.mem_cons.1 hq with rfl | hq
      · exact hc
      · exact hw q hq)]
    simp
theorem ParP.alph {A : List Nd} {x : Int} {u : Word} {l : List Int} (h : ParP A x u l) : Alph u := by
  induction h with
  | start => exact fun q hq => by cases hq
  | step h hc hs ih =>
    intro q hq
    rcases List.mem_append.1 hq with hq | hq
    · exact ih q hq
    · rw [List.mem_singleton.1 hq]; exact hc
end Go.Proofs.Qxb6500848aGreatDoor.Pl
