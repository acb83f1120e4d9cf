/-
  The plain side: the classes of a derivative; Antimirov's derivatives are quotients.
-/
import Derived.Test.Qxb6500848aGreatDoorPlainP
namespace Go.Proofs.Qxb6500848aGreatDoor.Pl

/-- l is a class that is met from x. -/
def Cs (A : List Nd) (x : Int) (l : List Nat) : Prop := ∃ y, Rch A x y ∧ (nodeAt A y).kind = 3 ∧ (nodeAt A y).bits = l

theorem Rch.first {A : List Nd} {x y : Int} (h : Rch A x y) : y = x ∨ ∃ k ∈ (nodeAt A x).kids, Rch A k y := by
  induction h with
  | refl => exact Or.inl rfl
  | step h hk ih =>
    rcases ih with rfl | ⟨k0, h0, h1⟩
    · exact Or.inr ⟨_, hk, .refl⟩
    · exact Or.inr ⟨k0, h0, .step h1 hk⟩
theorem cs_unfold {A : List Nd} {x : Int} {l : List Nat} : Cs A x l ↔ ((nodeAt A x).kind = 3 ∧ (nodeAt A x).bits = l) ∨ ∃ k ∈ (nodeAt A x).kids, Cs A k l := by
  constructor
  · rintro ⟨y, h1, h2, h3⟩
    rcases h1.first with rfl | ⟨k, hk, h4⟩
    · exact Or.inl ⟨h2, h3⟩
    · exact Or.inr ⟨k, hk, y, h4, h2, h3⟩
  · rintro (⟨h2, h3⟩ | ⟨k, hk, y, h4, h2, h3⟩)
    · exact ⟨x, .refl, h2, h3⟩
    · exact ⟨y, h4.head hk, h2, h3⟩
theorem Cs.kid {A : List Nd} {x k : Int} {l : List Nat} (hk : k ∈ (nodeAt A x).kids) (h : Cs A k l) : Cs A x l := cs_unfold.2 (Or.inr ⟨k, hk, h⟩)
theorem Cs.kidAt {A : List Nd} {x : Int} {i : Nat} {l : List Nat} (hi : i < (nodeAt A x).kids.length) (h : Cs A (Pl.kid (nodeAt A x) i) l) : Cs A x l := Cs.kid (getD_mem hi) h
theorem cs_leaf {A : List Nd} (hA : Wf A) {x : Int} (hx : Valid A x) (h : (nodeAt A x).kind < 3) {l : List Nat} : ¬ Cs A x l := fun hc => by
  rcases cs_unfold.1 hc with ⟨h1, _⟩ | ⟨k, hk, _⟩
  · omega
  · rw [(hA.at hx).nokids (by omega)] at hk
    cases hk
theorem cs0 {A : List Nd} (hA : Wf A) {l : List Nat} : ¬ Cs A 0 l := cs_leaf hA hA.v0 (by rw [hA.at0]; decide)
theorem cs1 {A : List Nd} (hA : Wf A) {l : List Nat} : ¬ Cs A 1 l := cs_leaf hA hA.v1 (by rw [hA.at1]; decide)
theorem cs2 {A : List Nd} (hA : Wf A) {l : List Nat} : ¬ Cs A 2 l := cs_leaf hA hA.v2 (by rw [hA.at2]; decide)

def NfCs (A : List Nd) : Nf → List Nat → Prop
  | .id x, l => Cs A x l
  | .nd n, l => (n.kind = 3 ∧ n.bits = l) ∨ ∃ k ∈ n.kids, Cs A k l
theorem Val.cs {A : List Nd} {nf : Nf} {z : Int} {l : List Nat} (h : Val A nf z) (hc : Cs A z l) : NfCs A nf l := by
  cases nf with
  | id x => rw [h.1]; exact hc
  | nd n =>
    have := cs_unfold.1 hc
    rw [h.2] at this
    exact this

theorem concatN_cs {A : List Nd} (hA : Wf A) {x y : Int} {l : List Nat} (h : NfCs A (concatN x y) l) : Cs A x l ∨ Cs A y l := by
  unfold concatN at h
  split at h
  · exact (cs0 hA h).elim
  · split at h
    · exact Or.inr h
    · split at h
      · exact Or.inl h
      · rcases h with ⟨h, _⟩ | ⟨k, hk, h⟩
        · cases h
        · simp at hk
          rcases hk with rfl | rfl
          · exact Or.inl h
          · exact Or.inr h

theorem parts_cs {A : List Nd} {kind unit : Int} {xs : List Int} {z : Int} {l : List Nat} (hz : z ∈ parts A kind unit xs) (h : Cs A z l) : ∃ x ∈ xs, Cs A x l := by
  unfold parts at hz
  obtain ⟨x, hx, hz⟩ := List.mem_flatMap.1 hz
  refine ⟨x, hx, ?_⟩
  split at hz
  · exact Cs.kid hz h
  · split at hz
    · rw [← List.mem_singleton.1 hz]; exact h
    · cases hz

theorem unionN_cs {A : List Nd} (hA : Wf A) {xs : List Int} {l : List Nat} (h : NfCs A (unionN A xs) l) : ∃ x ∈ xs, Cs A x l := by
  unfold unionN at h
  have hp : ∀ z ∈ flat A 5 0 xs, Cs A z l → ∃ x ∈ xs, Cs A x l := fun z hz hc => parts_cs (mem_flat.1 hz) hc
  generalize flat A 5 0 xs = p at h hp
  simp only at h
  split at h
  · exact (cs2 hA h).elim
  · split at h
    · exact (cs0 hA h).elim
    · split at h
      · rename_i h1
        obtain ⟨a, rfl⟩ := List.length_eq_one_iff.1 h1
        exact hp a (by simp) h
      · rcases h with ⟨h, _⟩ | ⟨k, hk, h⟩
        · cases h
        · exact hp k hk h
theorem interN_cs {A : List Nd} (hA : Wf A) {xs : List Int} {l : List Nat} (h : NfCs A (interN A xs) l) : ∃ x ∈ xs, Cs A x l := by
  unfold interN at h
  have hp : ∀ z ∈ flat A 6 2 xs, Cs A z l → ∃ x ∈ xs, Cs A x l := fun z hz hc => parts_cs (mem_flat.1 hz) hc
  generalize flat A 6 2 xs = p at h hp
  simp only at h
  split at h
  · exact (cs0 hA h).elim
  · split at h
    · exact (cs2 hA h).elim
    · split at h
      · rename_i h1
        obtain ⟨a, rfl⟩ := List.length_eq_one_iff.1 h1
        exact hp a (by simp) h
      · rcases h with ⟨h, _⟩ | ⟨k, hk, h⟩
        · cases h
        · exact hp k hk h
theorem compN_cs {A : List Nd} (hA : Wf A) {x : Int} (hx : Valid A x) {l : List Nat} (h : NfCs A (compN A x) l) : Cs A x l := by
  unfold compN at h
  split at h
  · exact (cs2 hA h).elim
  · split at h
    · exact (cs0 hA h).elim
    · split at h
      · rename_i h1
        have hl := len1 hA hx (Or.inl h1)
        exact Cs.kidAt (i := 0) (by omega) h
      · rcases h with ⟨h, _⟩ | ⟨k, hk, h⟩
        · cases h
        · rw [← List.mem_singleton.1 hk]; exact h
theorem starN_cs {A : List Nd} (hA : Wf A) {x : Int} {l : List Nat} (h : NfCs A (starN A x) l) : Cs A x l := by
  unfold starN at h
  split at h
  · exact (cs1 hA h).elim
  · split at h
    · exact h
    · split at h
      · exact (cs2 hA h).elim
      · rcases h with ⟨h, _⟩ | ⟨k, hk, h⟩
        · cases h
        · rw [← List.mem_singleton.1 hk]; exact h
theorem loopN_cs {A : List Nd} (hA : Wf A) {x lo hi : Int} {l : List Nat} (h : NfCs A (loopN A x lo hi) l) : Cs A x l := by
  unfold loopN at h
  split at h
  · exact (cs0 hA h).elim
  · split at h
    · exact (cs1 hA h).elim
    · split at h
      · exact (cs1 hA h).elim
      · split at h
        · exact (cs0 hA h).elim
        · split at h
          · exact h
          · split at h
            · exact h
            · split at h
              · exact starN_cs hA h
              · rcases h with ⟨h, _⟩ | ⟨k, hk, h⟩
                · cases h
                · rw [← List.mem_singleton.1 hk]; exact h

/-- The classes of a derivative are among those of the regex. -/
theorem Der.cs {A : List Nd} (hA : Wf A) {c x z : Int} (h : Der A c x z) : Valid A x → ∀ {l}, Cs A z l → Cs A x l := by
  induction h with
  | none h => intro _ l hc; exact (cs0 hA hc).elim
  | all h => intro _ l hc; exact (cs2 hA hc).elim
  | cls h hz =>
    intro _ l hc
    subst hz
    split at hc
    · exact (cs1 hA hc).elim
    · exact (cs0 hA hc).elim
  | cat1 h hd hn hv ih =>
    intro hx l hc
    have hl := len2 hA hx h
    rcases concatN_cs hA (hv.cs hc) with h1 | h1
    · exact Cs.kidAt (i := 0) (by omega) (ih (kid_valid hA hx (by omega)).1 h1)
    · exact Cs.kidAt (i := 1) (by omega) h1
  | cat2 h hd hn hf he hv ih ih2 =>
    intro hx l hc
    have hl := len2 hA hx h
    obtain ⟨y, hy, h1⟩ := unionN_cs hA (hv.cs hc)
    simp at hy
    rcases hy with rfl | rfl
    · rcases concatN_cs hA (hf.cs h1) with h1 | h1
      · exact Cs.kidAt (i := 0) (by omega) (ih (kid_valid hA hx (by omega)).1 h1)
      · exact Cs.kidAt (i := 1) (by omega) h1
    · exact Cs.kidAt (i := 1) (by omega) (ih2 (kid_valid hA hx (by omega)).1 h1)
  | uni h ds hl hd hv ih =>
    intro hx l hc
    obtain ⟨y, hy, h1⟩ := unionN_cs hA (hv.cs hc)
    obtain ⟨i, hi, rfl⟩ := List.getElem_of_mem hy
    have := ih i hi (kid_valid hA hx (by omega)).1 (l := l)
    rw [getD_lt hi] at this
    exact Cs.kidAt (i := i) (by omega) (this h1)
  | int h ds hl hd hv ih =>
    intro hx l hc
    obtain ⟨y, hy, h1⟩ := interN_cs hA (hv.cs hc)
    obtain ⟨i, hi, rfl⟩ := List.getElem_of_mem hy
    have := ih i hi (kid_valid hA hx (by omega)).1 (l := l)
    rw [getD_lt hi] at this
    exact Cs.kidAt (i := i) (by omega) (this h1)
  | comp h hd hv ih =>
    intro hx l hc
    have hl := len1 hA hx (Or.inl h)
    have k0 := (kid_valid hA hx (i := 0) (by omega)).1
    exact Cs.kidAt (i := 0) (by omega) (ih k0 (compN_cs hA (hd.valid hA k0) (hv.cs hc)))
  | dead h hd ih => intro _ l hc; exact (cs0 hA hc).elim
  | star h hd h0 hv ih =>
    intro hx l hc
    have hl := len1 hA hx (Or.inr (Or.inl h))
    rcases concatN_cs hA (hv.cs hc) with h1 | h1
    · exact Cs.kidAt (i := 0) (by omega) (ih (kid_valid hA hx (by omega)).1 h1)
    · exact h1
  | loop h hd h0 hr hv ih =>
    intro hx l hc
    have hl := len1 hA hx (Or.inr (Or.inr h))
    rcases concatN_cs hA (hv.cs hc) with h1 | h1
    · exact Cs.kidAt (i := 0) (by omega) (ih (kid_valid hA hx (by omega)).1 h1)
    · exact Cs.kidAt (i := 0) (by omega) (loopN_cs hA (hr.cs h1))

/-- Two characters of one block of x's cut agree on every y with no other classes. -/
theorem IsCut.agree2 {tab : Nat → Int} {A : List Nd} {x y : Int} {P : List (List Nat)} (h : IsCut tab A x P) (hs : ∀ l, Cs A y l → Cs A x l) {p : List Nat} (hp : p ∈ P) {c c' : Int} (h1 : hasC p c = true) (h2 : hasC p c' = true) : Agree A c c' y := by
  obtain ⟨F, _, hF, hC⟩ := h
  intro z hz h3
  obtain ⟨z', q1, q2, q3⟩ := hs _ ⟨z, hz, h3, rfl⟩
  exact (((hC.mt.same p hp c c' h1).1 h2).2 _ ((hF _).2 ⟨z', q1, q2, q3⟩)).symm
theorem Cs.le {A B : List Nd} (hA : Wf A) (hAB : Le A B) {x : Int} (hx : Valid A x) {l : List Nat} : Cs B x l ↔ Cs A x l := by
  constructor
  · rintro ⟨y, h1, h2, h3⟩
    have hr := Rch.le hA hAB hx (y := y)
    have h4 := hr.1.2 h1
    rw [hAB.node (hr.2 h4)] at h2 h3
    exact ⟨y, h4, h2, h3⟩
  · rintro ⟨y, h1, h2, h3⟩
    have hr := Rch.le hA hAB hx (y := y)
    exact ⟨y, hr.1.1 h1, by rw [hAB.node (hr.2 h1)]; exact h2, by rw [hAB.node (hr.2 h1)]; exact h3⟩

/-! ### Antimirov -/
def LangS (A : List Nd) (l : List Int) : Lang := fun w => ∃ q ∈ l, lang A q w

theorem Thens.lang {A : List Nd} (hA : Wf A) {l : List Int} {t : Int} {qs : List Int} (h : Thens A l t qs) (w : Word) : LangS A qs w ↔ cat (LangS A l) (lang A t) w := by
  constructor
  · rintro ⟨q, hq, hw⟩
    obtain ⟨i, hi, rfl⟩ := List.getElem_of_mem hq
    have hi' : i < l.length := by have := h.1; omega
    have := h.2 i hi' hi
    rw [this.lang hA, concatN_lang hA] at hw
    obtain ⟨u, v, rfl, h1, h2⟩ := hw
    exact ⟨u, v, rfl, ⟨l[i], List.getElem_mem hi', h1⟩, h2⟩
  · rintro ⟨u, v, rfl, ⟨p, hp, h1⟩, h2⟩
    obtain ⟨i, hi, rfl⟩ := List.getElem_of_mem hp
    have hi' : i < qs.length := by have := h.1; omega
    have := h.2 i hi hi'
    refine ⟨qs[i], List.getElem_mem hi', ?_⟩
    rw [this.lang hA, concatN_lang hA]
    exact ⟨u, v, rfl, h1, h2⟩
theorem langS_set {A : List Nd} {l : List Int} (w : Word) : LangS A (setOf l) w ↔ LangS A l w := by
  unfold LangS
  simp only [mem_setOf]
theorem langS_append {A : List Nd} {l m : List Int} (w : Word) : LangS A (l ++ m) w ↔ LangS A l w ∨ LangS A m w := by
  constructor
  · rintro ⟨q, hq, hw⟩
    rcases List.mem_append.1 hq with h | h
    · exact Or.inl ⟨q, h, hw⟩
    · exact Or.inr ⟨q, h, hw⟩
  · rintro (⟨q, hq, hw⟩ | ⟨q, hq, hw⟩)
    · exact ⟨q, List.mem_append_left _ hq, hw⟩
    · exact ⟨q, List.mem_append_right _ hq, hw⟩

theorem Par.quot {A : List Nd} (hA : Wf A) {c : Int} {x : Int} {z : List Int} (h : Par A c x z) : Valid A x → ∀ w, Alph w → (LangS A z w ↔ lang A x (c :: w)) := by
  induction h with
  | none h =>
    intro hx w hw
    rw [lang_unfold hA hx]
    rcases h with h | h <;> simp [sem, h, LangS]
  | all h =>
    intro hx w hw
    rw [lang_unfold hA hx]
    simp [sem, h, LangS, lang2 hA]
  | cls h hz =>
    intro hx w hw
    subst hz
    rename_i x
    have e : lang A x (c :: w) ↔ w = [] ∧ hasC (nodeAt A x).bits c = true := by
      rw [lang_unfold hA hx]
      simp only [sem, h]
      simp
      constructor
      · rintro ⟨d, ⟨rfl, rfl⟩, hd⟩; exact ⟨rfl, hd⟩
      · rintro ⟨rfl, hd⟩; exact ⟨c, ⟨rfl, rfl⟩, hd⟩
    rw [e]
    split
    · rename_i hb; simp [LangS, lang1 hA, hb]
    · rename_i hb; simp [LangS, hb]
  | cat1 h hd hn ht hz ih =>
    intro hx w hw
    have hl := len2 hA hx h
    have q := ih (kid_valid hA hx (by omega)).1
    subst hz
    rw [langS_set, ht.lang hA, lang4 hA hx h, cat_cons, cat_alph q hw]
    exact ⟨Or.inr, fun h => h.elim (fun h => absurd h.1 hn) id⟩
  | cat2 h hd hn ht he hz ih ih2 =>
    intro hx w hw
    have hl := len2 hA hx h
    have q := ih (kid_valid hA hx (by omega)).1
    have q2 := ih2 (kid_valid hA hx (by omega)).1
    subst hz
    rw [langS_set, langS_append, ht.lang hA, lang4 hA hx h, cat_cons, cat_alph q hw, q2 w hw]
    exact ⟨fun h => h.elim Or.inr (fun h => Or.inl ⟨hn, h⟩), fun h => h.elim (fun h => Or.inr h.2) Or.inl⟩
  | uni h ls hl hd hz ih =>
    intro hx w hw
    subst hz
    rw [langS_set, lang5 hA hx h]
    constructor
    · rintro ⟨q, hq, hw'⟩
      obtain ⟨l, hl', hq⟩ := List.mem_flatten.1 hq
      obtain ⟨i, hi, rfl⟩ := List.getElem_of_mem hl'
      have := ih i hi (kid_valid hA hx (by omega)).1 w hw
      rw [getD_lt hi] at this
      exact ⟨_, getD_mem (i := i) (by omega), this.1 ⟨q, hq, hw'⟩⟩
    · rintro ⟨k, hk, hw'⟩
      obtain ⟨i, hi, rfl⟩ := List.getElem_of_mem hk
      have hi' : i < ls.length := by omega
      have := ih i hi' (kid_valid hA hx (by omega)).1 w hw
      unfold kid at this
      rw [getD_lt hi', getD_lt hi] at this
      obtain ⟨q, hq, h1⟩ := this.2 hw'
      exact ⟨q, List.mem_flatten.2 ⟨ls[i], List.getElem_mem hi', hq⟩, h1⟩
  | dead h hd ih =>
    intro hx w hw
    rename_i x
    have hl := len1 hA hx (Or.inr h)
    have q := ih (kid_valid hA hx (by omega)).1
    have none : ∀ {g : Lang}, ¬ cat (fun u => lang A (kid (nodeAt A x) 0) (c :: u)) g w := by
      rintro g ⟨u, v, rfl, h2, _⟩
      obtain ⟨_, h3, _⟩ := (q u hw.left).2 h2
      cases h3
    refine ⟨fun ⟨_, h3, _⟩ => (by cases h3), fun hh => ?_⟩
    rcases h with h | h
    · rw [lang8 hA hx h, star_cons] at hh; exact (none hh).elim
    · rw [lang9 hA hx h, loop_cons ((hA.at hx).loop h).2.2.2] at hh; exact (none hh).elim
  | star h hd h0 ht hz ih =>
    intro hx w hw
    rename_i x l qs z
    have hl := len1 hA hx (Or.inr (Or.inl h))
    have q := ih (kid_valid hA hx (by omega)).1
    subst hz
    rw [langS_set, ht.lang hA, lang8 hA hx h, star_cons, cat_alph q hw]
    have e : lang A x = fun v => ∃ n, pow (lang A (kid (nodeAt A x) 0)) n v := funext fun v => propext (lang8 hA hx h v)
    rw [← e]
  | loop h hd h0 hr ht hz ih =>
    intro hx w hw
    rename_i x l r qs z
    have hl := len1 hA hx (Or.inr (Or.inr h))
    have hk := kid_valid hA hx (i := 0) (by omega)
    have q := ih hk.1
    have ho := (hA.at hx).loop h
    subst hz
    rw [langS_set, ht.lang hA, lang9 hA hx h, loop_cons ho.2.2.2, cat_alph q hw]
    refine cat_alph2 (fun v hv' => ?_) hw
    rw [hr.lang hA, loopN_lang hA hk.1 (by omega) (by split <;> omega) hv']

/-- No complement and no intersection: so of every kid. -/
theorem PlainR.kid {A : List Nd} {x k : Int} (h : PlainR A x) (hk : k ∈ (nodeAt A x).kids) : PlainR A k := fun y hy => h y (hy.head hk)
theorem plainR_unfold {A : List Nd} {x : Int} : PlainR A x ↔ ((nodeAt A x).kind ≠ 6 ∧ (nodeAt A x).kind ≠ 7) ∧ ∀ k ∈ (nodeAt A x).kids, PlainR A k := by
  constructor
  · intro h; exact ⟨h x .refl, fun k hk => h.kid hk⟩
  · rintro ⟨h1, h2⟩ y hy
    rcases hy.first with rfl | ⟨k, hk, h3⟩
    · exact h1
    · exact h2 k hk y h3
end Go.Proofs.Qxb6500848aGreatDoor.Pl
