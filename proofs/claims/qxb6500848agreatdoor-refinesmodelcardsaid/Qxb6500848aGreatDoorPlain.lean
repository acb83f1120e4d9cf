/-
  The plain side: arenas, languages, derivatives. No Go in sight.
-/
import Derived.WalkKit
import Derived.Lib.SlicesCompact
namespace Go.Proofs.Qxb6500848aGreatDoor.Pl

/-- A regex one level deep. Kinds: 0 none, 1 eps, 2 all, 3 class, 4 concat, 5 union, 6 inter, 7 comp, 8 star, 9 loop. -/
structure Nd where
  kind : Int
  bits : List Nat
  kids : List Int
  lo : Int
  hi : Int
deriving DecidableEq, Inhabited

abbrev Word := List Int
abbrev Lang := Word → Prop

def Alph (w : Word) : Prop := ∀ c ∈ w, 0 ≤ c ∧ c ≤ 196607

theorem Alph.left {u v : Word} (h : Alph (u ++ v)) : Alph u := fun c hc => h c (List.mem_append_left _ hc)
theorem Alph.right {u v : Word} (h : Alph (u ++ v)) : Alph v := fun c hc => h c (List.mem_append_right _ hc)
theorem Alph.tail {c : Int} {w : Word} (h : Alph (c :: w)) : Alph w := fun d hd => h d (List.mem_cons_of_mem _ hd)
theorem alph_nil : Alph [] := fun _ h => by cases h

def hasC (bits : List Nat) (c : Int) : Bool := decide (0 ≤ c) && decide (c ≤ 196607) && (bits.getD (c.toNat / 64) 0).testBit (c.toNat % 64)

def cat (f g : Lang) : Lang := fun w => ∃ u v, w = u ++ v ∧ f u ∧ g v
def pow (f : Lang) : Nat → Lang
  | 0 => fun w => w = []
  | n + 1 => cat (pow f n) f

def kid (nd : Nd) (i : Nat) : Int := nd.kids.getD i 0

def sem (nd : Nd) (f : Int → Lang) : Lang := fun w =>
  if nd.kind = 1 then w = []
  else if nd.kind = 2 then True
  else if nd.kind = 3 then ∃ c, w = [c] ∧ hasC nd.bits c = true
  else if nd.kind = 4 then cat (f (kid nd 0)) (f (kid nd 1)) w
  else if nd.kind = 5 then ∃ k ∈ nd.kids, f k w
  else if nd.kind = 6 then ∀ k ∈ nd.kids, f k w
  else if nd.kind = 7 then ¬ f (kid nd 0) w
  else if nd.kind = 8 then ∃ n, pow (f (kid nd 0)) n w
  else if nd.kind = 9 then ∃ n : Nat, nd.lo ≤ n ∧ (nd.hi = -1 ∨ (n : Int) ≤ nd.hi) ∧ pow (f (kid nd 0)) n w
  else False

def noneNd : Nd := ⟨0, [], [], 0, 0⟩
def nodeAt (A : List Nd) (x : Int) : Nd := A.getD x.toNat noneNd

def langF (A : List Nd) : Nat → Int → Lang
  | 0, _ => fun _ => False
  | n + 1, x => sem (nodeAt A x) (langF A n)

def lang (A : List Nd) (x : Int) : Lang := langF A (x.toNat + 1) x

def Valid (A : List Nd) (x : Int) : Prop := 0 ≤ x ∧ x.toNat < A.length

/-- The node is in normal form. -/
structure Nrm (A : List Nd) (nd : Nd) : Prop where
  cat : nd.kind = 4 → ∀ k ∈ nd.kids, k ≠ 0 ∧ k ≠ 1
  uni : nd.kind = 5 → 2 ≤ nd.kids.length ∧ nd.kids.Pairwise (· < ·) ∧ ∀ k ∈ nd.kids, k ≠ 0 ∧ k ≠ 2 ∧ (nodeAt A k).kind ≠ 5
  int : nd.kind = 6 → 2 ≤ nd.kids.length ∧ nd.kids.Pairwise (· < ·) ∧ ∀ k ∈ nd.kids, k ≠ 0 ∧ k ≠ 2 ∧ (nodeAt A k).kind ≠ 6
  cmp : nd.kind = 7 → ∀ k ∈ nd.kids, k ≠ 0 ∧ k ≠ 2 ∧ (nodeAt A k).kind ≠ 7
  str : nd.kind = 8 → ∀ k ∈ nd.kids, k ≠ 0 ∧ k ≠ 1 ∧ k ≠ 2 ∧ (nodeAt A k).kind ≠ 8
  lop : nd.kind = 9 → (∀ k ∈ nd.kids, k ≠ 0 ∧ k ≠ 1 ∧ k ≠ 2 ∧ (nodeAt A k).kind ≠ 8) ∧ ¬ (nd.lo = 1 ∧ nd.hi = 1)

/-- What a node at place i keeps. -/
structure NdOk (A : List Nd) (i : Nat) (nd : Nd) : Prop where
  kids : ∀ k ∈ nd.kids, 0 ≤ k ∧ k.toNat < i
  kind : 0 ≤ nd.kind ∧ nd.kind ≤ 9
  two : nd.kind = 4 → ∃ a b, nd.kids = [a, b]
  one : nd.kind = 7 ∨ nd.kind = 8 ∨ nd.kind = 9 → ∃ a, nd.kids = [a]
  nokids : nd.kind ≤ 3 → nd.kids = []
  cls : nd.kind = 3 → nd.bits.length = 3072 ∧ ∀ b ∈ nd.bits, b < 2 ^ 64
  bits : nd.kind ≠ 3 → nd.bits = []
  loop : nd.kind = 9 → 0 ≤ nd.lo ∧ nd.lo ≤ 5 ∧ nd.hi ≤ 5 ∧ (nd.hi = -1 ∧ 1 ≤ nd.lo ∨ nd.lo ≤ nd.hi ∧ 1 ≤ nd.hi)
  plain : nd.kind ≠ 9 → nd.lo = 0 ∧ nd.hi = 0
  few : nd.kids.length ≤ i
  many : nd.kind = 5 ∨ nd.kind = 6 → nd.kids ≠ []
  nrm : Nrm A nd

theorem NdOk.mono {A : List Nd} {i j : Nat} {nd : Nd} (h : NdOk A i nd) (hij : i ≤ j) : NdOk A j nd :=
  ⟨fun k hk => ⟨(h.kids k hk).1, Nat.lt_of_lt_of_le (h.kids k hk).2 hij⟩, h.kind, h.two, h.one, h.nokids, h.cls, h.bits, h.loop, h.plain, Nat.le_trans h.few hij, h.many, h.nrm⟩

structure Wf (A : List Nd) : Prop where
  three : ∃ B, A = noneNd :: ⟨1, [], [], 0, 0⟩ :: ⟨2, [], [], 0, 0⟩ :: B
  node : ∀ i (h : i < A.length), NdOk A i A[i]
  uniq : ∀ i j (h : i < A.length) (h' : j < A.length), A[i] = A[j] → i = j

theorem getD_lt {α : Type} {l : List α} {i : Nat} (h : i < l.length) (d : α) : l.getD i d = l[i] := by
  simp [List.getD, List.getElem?_eq_getElem h]

theorem Wf.at {A : List Nd} (h : Wf A) {x : Int} (hx : Valid A x) : NdOk A x.toNat (nodeAt A x) := by
  have := h.node x.toNat hx.2
  unfold nodeAt
  rw [getD_lt hx.2]
  exact this

theorem few64 {A : List Nd} (hA : Wf A) (hl : A.length ≤ 65536) {x : Int} (hx : Valid A x) : (nodeAt A x).kids.length ≤ 65536 := by
  have h1 := (hA.at hx).few
  have h2 := hx.2
  omega
theorem Wf.three_le {A : List Nd} (h : Wf A) : 3 ≤ A.length := by
  obtain ⟨B, rfl⟩ := h.three
  simp

theorem Wf.at0 {A : List Nd} (h : Wf A) : nodeAt A 0 = noneNd := by
  obtain ⟨B, rfl⟩ := h.three; rfl
theorem Wf.at1 {A : List Nd} (h : Wf A) : nodeAt A 1 = ⟨1, [], [], 0, 0⟩ := by
  obtain ⟨B, rfl⟩ := h.three; rfl
theorem Wf.at2 {A : List Nd} (h : Wf A) : nodeAt A 2 = ⟨2, [], [], 0, 0⟩ := by
  obtain ⟨B, rfl⟩ := h.three; rfl

theorem Wf.kidValid {A : List Nd} (h : Wf A) {x : Int} (hx : Valid A x) {k : Int} (hk : k ∈ (nodeAt A x).kids) : Valid A k ∧ k.toNat < x.toNat := by
  have := (h.at hx).kids k hk
  exact ⟨⟨this.1, Nat.lt_trans this.2 hx.2⟩, this.2⟩

theorem sem_congr {A : List Nd} {i : Nat} {nd : Nd} (ok : NdOk A i nd) {f g : Int → Lang} (h : ∀ k ∈ nd.kids, f k = g k) : sem nd f = sem nd g := by
  funext w
  unfold sem
  by_cases h4 : nd.kind = 4
  · obtain ⟨a, b, e⟩ := ok.two h4
    have ha := h a (by simp [e])
    have hb := h b (by simp [e])
    simp [h4, kid, e, ha, hb]
  · by_cases h7 : nd.kind = 7 ∨ nd.kind = 8 ∨ nd.kind = 9
    · obtain ⟨a, e⟩ := ok.one h7
      have ha := h a (by simp [e])
      rcases h7 with h7 | h7 | h7 <;> simp [h7, kid, e, ha]
    · by_cases h5 : nd.kind = 5
      · simp only [h5]
        simp
        constructor
        · rintro ⟨k, hk, hw⟩; exact ⟨k, hk, h k hk ▸ hw⟩
        · rintro ⟨k, hk, hw⟩; exact ⟨k, hk, (h k hk).symm ▸ hw⟩
      · by_cases h6 : nd.kind = 6
        · simp only [h6]
          simp
          constructor
          · intro hh k hk; exact h k hk ▸ hh k hk
          · intro hh k hk; exact (h k hk).symm ▸ hh k hk
        · have : ¬ nd.kind = 7 := fun e => h7 (Or.inl e)
          have h8 : ¬ nd.kind = 8 := fun e => h7 (Or.inr (Or.inl e))
          have h9 : ¬ nd.kind = 9 := fun e => h7 (Or.inr (Or.inr e))
          simp [h4, h5, h6, this, h8, h9]

theorem langF_eq {A : List Nd} (hA : Wf A) : ∀ (n : Nat) (x : Int), Valid A x → x.toNat < n → langF A n x = lang A x := by
  suffices h : ∀ (m : Nat) (x : Int), x.toNat = m → Valid A x → ∀ n, x.toNat < n → langF A n x = lang A x from fun n x hv hn => h x.toNat x rfl hv n hn
  intro m
  induction m using Nat.strongRecOn with
  | ind m ih =>
    intro x hx hv n hn
    cases n with
    | zero => omega
    | succ n =>
      unfold lang
      simp only [langF]
      refine sem_congr (hA.at hv) fun k hk => ?_
      have := hA.kidValid hv hk
      rw [ih k.toNat (by omega) k rfl this.1 n (by omega), ih k.toNat (by omega) k rfl this.1 x.toNat (by omega)]

theorem lang_unfold {A : List Nd} (hA : Wf A) {x : Int} (hv : Valid A x) : lang A x = sem (nodeAt A x) (lang A) := by
  conv => lhs; unfold lang
  simp only [langF]
  exact sem_congr (hA.at hv) fun k hk => langF_eq hA _ _ (hA.kidValid hv hk).1 (hA.kidValid hv hk).2

theorem nodeAt_append {A B : List Nd} {x : Int} (hv : Valid A x) : nodeAt (A ++ B) x = nodeAt A x := by
  unfold nodeAt
  rw [getD_lt (by rw [List.length_append]; exact Nat.lt_of_lt_of_le hv.2 (Nat.le_add_right _ _)), getD_lt hv.2, List.getElem_append_left]

theorem Valid.append {A : List Nd} {x : Int} (hv : Valid A x) (B : List Nd) : Valid (A ++ B) x := ⟨hv.1, by rw [List.length_append]; exact Nat.lt_of_lt_of_le hv.2 (Nat.le_add_right _ _)⟩

theorem lang_append {A B : List Nd} (hA : Wf A) (hAB : Wf (A ++ B)) : ∀ {x : Int}, Valid A x → lang (A ++ B) x = lang A x := by
  suffices h : ∀ (m : Nat) (x : Int), x.toNat = m → Valid A x → lang (A ++ B) x = lang A x from fun {x} hv => h _ x rfl hv
  intro m
  induction m using Nat.strongRecOn with
  | ind m ih =>
    intro x hx hv
    rw [lang_unfold hAB (hv.append B), lang_unfold hA hv, nodeAt_append hv]
    refine sem_congr (hA.at hv) fun k hk => ?_
    have := hA.kidValid hv hk
    exact ih k.toNat (by omega) k rfl this.1

/-- The arena grows. -/
def Le (A B : List Nd) : Prop := ∃ C, B = A ++ C
theorem Le.refl (A : List Nd) : Le A A := ⟨[], by simp⟩
theorem Le.trans {A B C : List Nd} (h : Le A B) (k : Le B C) : Le A C := by
  obtain ⟨D, rfl⟩ := h
  obtain ⟨E, rfl⟩ := k
  exact ⟨D ++ E, by simp⟩
theorem Le.valid {A B : List Nd} (h : Le A B) {x : Int} (hv : Valid A x) : Valid B x := by
  obtain ⟨C, rfl⟩ := h; exact hv.append C
theorem Le.node {A B : List Nd} (h : Le A B) {x : Int} (hv : Valid A x) : nodeAt B x = nodeAt A x := by
  obtain ⟨C, rfl⟩ := h; exact nodeAt_append hv
theorem Le.lang {A B : List Nd} (h : Le A B) (hA : Wf A) (hB : Wf B) {x : Int} (hv : Valid A x) : Pl.lang B x = Pl.lang A x := by
  obtain ⟨C, rfl⟩ := h; exact lang_append hA hB hv
theorem Le.length {A B : List Nd} (h : Le A B) : A.length ≤ B.length := by
  obtain ⟨C, rfl⟩ := h; simp

theorem NdOk.append {A : List Nd} {i : Nat} {nd : Nd} (h : NdOk A i nd) (hi : i ≤ A.length) (C : List Nd) : NdOk (A ++ C) i nd := by
  have e : ∀ k ∈ nd.kids, nodeAt (A ++ C) k = nodeAt A k := fun k hk => nodeAt_append ⟨(h.kids k hk).1, Nat.lt_of_lt_of_le (h.kids k hk).2 hi⟩
  refine ⟨h.kids, h.kind, h.two, h.one, h.nokids, h.cls, h.bits, h.loop, h.plain, h.few, h.many, ⟨h.nrm.cat, fun q => ⟨(h.nrm.uni q).1, (h.nrm.uni q).2.1, fun k hk => ?_⟩, fun q => ⟨(h.nrm.int q).1, (h.nrm.int q).2.1, fun k hk => ?_⟩, fun q k hk => ?_, fun q k hk => ?_, fun q => ⟨fun k hk => ?_, (h.nrm.lop q).2⟩⟩⟩
  · rw [e k hk]; exact (h.nrm.uni q).2.2 k hk
  · rw [e k hk]; exact (h.nrm.int q).2.2 k hk
  · rw [e k hk]; exact h.nrm.cmp q k hk
  · rw [e k hk]; exact h.nrm.str q k hk
  · rw [e k hk]; exact (h.nrm.lop q).1 k hk

theorem wf_snoc {A : List Nd} (hA : Wf A) {nd : Nd} (h : NdOk A A.length nd) (hnew : ∀ j (h : j < A.length), A[j] ≠ nd) : Wf (A ++ [nd]) := by
  obtain ⟨B, hB⟩ := hA.three
  refine ⟨⟨B ++ [nd], by rw [hB]; simp⟩, fun i hi => ?_, fun i j hi hj e => ?_⟩
  · by_cases hl : i < A.length
    · rw [List.getElem_append_left hl]; exact (hA.node i hl).append (Nat.le_of_lt hl) _
    · have : i = A.length := by simp at hi; omega
      subst this
      simpa using h.append (Nat.le_refl _) [nd]
  · simp at hi hj
    by_cases h1 : i < A.length
    · by_cases h2 : j < A.length
      · rw [List.getElem_append_left h1, List.getElem_append_left h2] at e
        exact hA.uniq i j h1 h2 e
      · have : j = A.length := by omega
        subst this
        rw [List.getElem_append_left h1] at e
        exact absurd (by simpa using e) (hnew i h1)
    · have : i = A.length := by omega
      subst this
      by_cases h2 : j < A.length
      · rw [List.getElem_append_left h2] at e
        exact absurd (by simpa using e.symm) (hnew j h2)
      · omega

/-! ### what a constructor asks for: an old number, or a node -/
inductive Nf where
  | id (x : Int)
  | nd (n : Nd)

def Val (A : List Nd) : Nf → Int → Prop
  | .id x, z => x = z ∧ Valid A z
  | .nd n, z => Valid A z ∧ nodeAt A z = n

theorem Val.valid {A : List Nd} {nf : Nf} {z : Int} (h : Val A nf z) : Valid A z := by
  cases nf with
  | id x => exact h.2
  | nd n => exact h.1

theorem Val.le {A B : List Nd} (hAB : Le A B) {nf : Nf} {z : Int} (h : Val A nf z) : Val B nf z := by
  cases nf with
  | id x => exact ⟨h.1, hAB.valid h.2⟩
  | nd n => exact ⟨hAB.valid h.1, (hAB.node h.1).trans h.2⟩

def langNf (A : List Nd) : Nf → Lang
  | .id x => lang A x
  | .nd n => sem n (lang A)

theorem Val.lang {A : List Nd} (hA : Wf A) {nf : Nf} {z : Int} (h : Val A nf z) : Pl.lang A z = langNf A nf := by
  cases nf with
  | id x => rw [h.1]; rfl
  | nd n => rw [lang_unfold hA h.1, h.2]; rfl

theorem lang0 {A : List Nd} (hA : Wf A) : lang A 0 = fun _ => False := by
  rw [lang_unfold hA ⟨by decide, by have := hA.three_le; simp; omega⟩, hA.at0]; rfl
theorem lang1 {A : List Nd} (hA : Wf A) : lang A 1 = fun w => w = [] := by
  rw [lang_unfold hA ⟨by decide, by have := hA.three_le; simp; omega⟩, hA.at1]; rfl
theorem lang2 {A : List Nd} (hA : Wf A) : lang A 2 = fun _ => True := by
  rw [lang_unfold hA ⟨by decide, by have := hA.three_le; simp; omega⟩, hA.at2]; rfl
theorem Wf.v0 {A : List Nd} (hA : Wf A) : Valid A 0 := ⟨by decide, by have := hA.three_le; simp; omega⟩
theorem Wf.v1 {A : List Nd} (hA : Wf A) : Valid A 1 := ⟨by decide, by have := hA.three_le; simp; omega⟩
theorem Wf.v2 {A : List Nd} (hA : Wf A) : Valid A 2 := ⟨by decide, by have := hA.three_le; simp; omega⟩

/-! ### Concat -/
def concatN (x y : Int) : Nf :=
  if x = 0 ∨ y = 0 then .id 0 else if x = 1 then .id y else if y = 1 then .id x else .nd ⟨4, [], [x, y], 0, 0⟩

theorem cat_eps_left {f : Lang} (w : Word) : cat (fun w => w = []) f w ↔ f w := by
  constructor
  · rintro ⟨u, v, rfl, rfl, h⟩; exact h
  · intro h; exact ⟨[], w, rfl, rfl, h⟩
theorem cat_eps_right {f : Lang} (w : Word) : cat f (fun w => w = []) w ↔ f w := by
  constructor
  · rintro ⟨u, v, rfl, h, rfl⟩; simpa using h
  · intro h; exact ⟨w, [], by simp, h, rfl⟩

theorem concatN_lang {A : List Nd} (hA : Wf A) (x y : Int) (w : Word) : langNf A (concatN x y) w ↔ cat (lang A x) (lang A y) w := by
  unfold concatN
  split
  · rename_i h
    rw [langNf, lang0 hA]
    constructor
    · exact False.elim
    · rintro ⟨u, v, rfl, h1, h2⟩
      rcases h with rfl | rfl
      · rw [lang0 hA] at h1; exact h1
      · rw [lang0 hA] at h2; exact h2
  · split
    · rename_i h; subst h; rw [lang1 hA, cat_eps_left]; rfl
    · split
      · rename_i h; subst h; rw [lang1 hA, cat_eps_right]; rfl
      · simp [langNf, sem, kid]

/-! ### Union and Inter -/
def parts (A : List Nd) (kind unit : Int) (xs : List Int) : List Int :=
  xs.flatMap fun x => if (nodeAt A x).kind = kind then (nodeAt A x).kids else if x ≠ unit then [x] else []

def srt (l : List Int) : List Int := l.mergeSort fun x y => decide (x ≤ y)
def flat (A : List Nd) (kind unit : Int) (xs : List Int) : List Int := Lib.compact (srt (parts A kind unit xs))

def unionN (A : List Nd) (xs : List Int) : Nf :=
  let p := flat A 5 0 xs
  if p.contains 2 then .id 2 else if p.length = 0 then .id 0 else if p.length = 1 then .id (p.getD 0 0) else .nd ⟨5, [], p, 0, 0⟩
def interN (A : List Nd) (xs : List Int) : Nf :=
  let p := flat A 6 2 xs
  if p.contains 0 then .id 0 else if p.length = 0 then .id 2 else if p.length = 1 then .id (p.getD 0 0) else .nd ⟨6, [], p, 0, 0⟩

theorem mem_compactUpTo (d : Array Int) : ∀ (m : Nat) (x : Int), x ∈ Lib.compactUpTo d m ↔ ∃ j, j < m ∧ d[j]! = x
  | 0, x => by simp [Lib.compactUpTo]
  | m + 1, x => by
    rw [Lib.compactUpTo_succ, List.mem_append, mem_compactUpTo d m x]
    constructor
    · rintro (⟨j, hj, e⟩ | h)
      · exact ⟨j, by omega, e⟩
      · split at h
        · exact ⟨m, by omega, (List.mem_singleton.1 h).symm⟩
        · cases h
    · rintro ⟨j, hj, e⟩
      by_cases hm : j < m
      · exact Or.inl ⟨j, hm, e⟩
      · obtain rfl : j = m := by omega
        by_cases hk : Lib.keeps d j = true
        · right; simp [hk, e]
        · left
          simp only [Lib.keeps, decide_eq_true_eq, not_or, Classical.not_not] at hk
          exact ⟨j - 1, by omega, by rw [← hk.2]; exact e⟩

theorem mem_compact (l : List Int) (x : Int) : x ∈ Lib.compact l ↔ x ∈ l := by
  unfold Lib.compact
  rw [mem_compactUpTo]
  constructor
  · rintro ⟨j, hj, rfl⟩
    rw [getElem!_pos l.toArray j (by simpa using hj)]
    simp
  · intro h
    obtain ⟨j, hj, e⟩ := List.getElem_of_mem h
    exact ⟨j, hj, by rw [getElem!_pos l.toArray j (by simpa using hj)]; simpa using e⟩

theorem mem_flat {A : List Nd} {kind unit : Int} {xs : List Int} {z : Int} : z ∈ flat A kind unit xs ↔ z ∈ parts A kind unit xs := by
  unfold flat srt
  rw [mem_compact, List.mem_mergeSort]

theorem parts_valid {A : List Nd} (hA : Wf A) {kind unit : Int} {xs : List Int} (hx : ∀ x ∈ xs, Valid A x) {z : Int} (h : z ∈ parts A kind unit xs) : Valid A z := by
  unfold parts at h
  obtain ⟨x, hxm, h⟩ := List.mem_flatMap.1 h
  split at h
  · exact (hA.kidValid (hx x hxm) h).1
  · split at h
    · rw [List.mem_singleton.1 h]; exact hx x hxm
    · cases h

theorem union_parts {A : List Nd} (hA : Wf A) {xs : List Int} (hx : ∀ x ∈ xs, Valid A x) (w : Word) : (∃ z ∈ parts A 5 0 xs, lang A z w) ↔ ∃ x ∈ xs, lang A x w := by
  unfold parts
  constructor
  · rintro ⟨z, hz, hw⟩
    obtain ⟨x, hxm, hz⟩ := List.mem_flatMap.1 hz
    refine ⟨x, hxm, ?_⟩
    split at hz
    · rename_i hk
      rw [lang_unfold hA (hx x hxm)]
      simp only [sem, hk]
      simp
      exact ⟨z, hz, hw⟩
    · split at hz
      · rw [← List.mem_singleton.1 hz]; exact hw
      · cases hz
  · rintro ⟨x, hxm, hw⟩
    by_cases hk : (nodeAt A x).kind = 5
    · have hw' := hw
      rw [lang_unfold hA (hx x hxm)] at hw'
      simp only [sem, hk] at hw'
      simp at hw'
      obtain ⟨k, hk', hw'⟩ := hw'
      exact ⟨k, List.mem_flatMap.2 ⟨x, hxm, by simp [hk, hk']⟩, hw'⟩
    · by_cases h0 : x = 0
      · subst h0; rw [lang0 hA] at hw; exact hw.elim
      · exact ⟨x, List.mem_flatMap.2 ⟨x, hxm, by simp [hk, h0]⟩, hw⟩

theorem unionN_lang {A : List Nd} (hA : Wf A) {xs : List Int} (hx : ∀ x ∈ xs, Valid A x) (w : Word) : langNf A (unionN A xs) w ↔ ∃ x ∈ xs, lang A x w := by
  rw [← union_parts hA hx w]
  have e : (∃ z ∈ parts A 5 0 xs, lang A z w) ↔ ∃ z ∈ flat A 5 0 xs, lang A z w :=
    ⟨fun ⟨z, h, k⟩ => ⟨z, mem_flat.2 h, k⟩, fun ⟨z, h, k⟩ => ⟨z, mem_flat.1 h, k⟩⟩
  rw [e]
  unfold unionN
  generalize flat A 5 0 xs = p
  simp only
  split
  · rename_i h
    rw [langNf, lang2 hA]
    exact ⟨fun _ => ⟨2, by simpa using h, by rw [lang2 hA]; trivial⟩, fun _ => trivial⟩
  · split
    · rename_i h
      rw [langNf, lang0 hA, List.length_eq_zero_iff.1 h]
      simp
    · split
      · rename_i h
        obtain ⟨a, rfl⟩ := List.length_eq_one_iff.1 h
        simp [langNf]
      · simp [langNf, sem]

theorem inter_parts {A : List Nd} (hA : Wf A) {xs : List Int} (hx : ∀ x ∈ xs, Valid A x) (w : Word) : (∀ z ∈ parts A 6 2 xs, lang A z w) ↔ ∀ x ∈ xs, lang A x w := by
  unfold parts
  constructor
  · intro h x hxm
    by_cases hk : (nodeAt A x).kind = 6
    · rw [lang_unfold hA (hx x hxm)]
      simp only [sem, hk]
      simp
      intro k hk'
      exact h k (List.mem_flatMap.2 ⟨x, hxm, by simp [hk, hk']⟩)
    · by_cases h0 : x = 2
      · subst h0; rw [lang2 hA]; trivial
      · exact h x (List.mem_flatMap.2 ⟨x, hxm, by simp [hk, h0]⟩)
  · intro h z hz
    obtain ⟨x, hxm, hz⟩ := List.mem_flatMap.1 hz
    have hw := h x hxm
    split at hz
    · rename_i hk
      rw [lang_unfold hA (hx x hxm)] at hw
      simp only [sem, hk] at hw
      simp at hw
      exact hw z hz
    · split at hz
      · rw [List.mem_singleton.1 hz]; exact hw
      · cases hz

theorem interN_lang {A : List Nd} (hA : Wf A) {xs : List Int} (hx : ∀ x ∈ xs, Valid A x) (w : Word) : langNf A (interN A xs) w ↔ ∀ x ∈ xs, lang A x w := by
  rw [← inter_parts hA hx w]
  have e : (∀ z ∈ parts A 6 2 xs, lang A z w) ↔ ∀ z ∈ flat A 6 2 xs, lang A z w :=
    ⟨fun h z hz => h z (mem_flat.1 hz), fun h z hz => h z (mem_flat.2 hz)⟩
  rw [e]
  unfold interN
  generalize flat A 6 2 xs = p
  simp only
  split
  · rename_i h
    rw [langNf, lang0 hA]
    refine ⟨False.elim, fun hh => ?_⟩
    have := hh 0 (by simpa using h)
    rw [lang0 hA] at this
    exact this
  · split
    · rename_i h
      rw [langNf, lang2 hA, List.length_eq_zero_iff.1 h]
      simp
    · split
      · rename_i h
        obtain ⟨a, rfl⟩ := List.length_eq_one_iff.1 h
        simp [langNf]
      · simp [langNf, sem]

/-! ### Comp -/
def compN (A : List Nd) (x : Int) : Nf :=
  if x = 0 then .id 2 else if x = 2 then .id 0 else if (nodeAt A x).kind = 7 then .id (kid (nodeAt A x) 0) else .nd ⟨7, [], [x], 0, 0⟩

theorem compN_lang {A : List Nd} (hA : Wf A) {x : Int} (hx : Valid A x) (w : Word) : langNf A (compN A x) w ↔ ¬ lang A x w := by
  unfold compN
  split
  · rename_i h; subst h; rw [langNf, lang2 hA, lang0 hA]; simp
  · split
    · rename_i h; subst h; rw [langNf, lang0 hA, lang2 hA]; simp
    · split
      · rename_i h
        rw [langNf, lang_unfold hA hx]
        simp [sem, h]
      · simp [langNf, sem, kid]

/-! ### powers -/
theorem cat_congr {f f' g g' : Lang} {w : Word} (hf : ∀ u v, w = u ++ v → (f u ↔ f' u)) (hg : ∀ u v, w = u ++ v → (g v ↔ g' v)) : cat f g w ↔ cat f' g' w := by
  constructor
  · rintro ⟨u, v, rfl, h1, h2⟩; exact ⟨u, v, rfl, (hf u v rfl).1 h1, (hg u v rfl).1 h2⟩
  · rintro ⟨u, v, rfl, h1, h2⟩; exact ⟨u, v, rfl, (hf u v rfl).2 h1, (hg u v rfl).2 h2⟩

theorem cat_assoc {f g h : Lang} (w : Word) : cat (cat f g) h w ↔ cat f (cat g h) w := by
  constructor
  · rintro ⟨_, v, rfl, ⟨a, b, rfl, h1, h2⟩, h3⟩; exact ⟨a, b ++ v, by simp, h1, b, v, rfl, h2, h3⟩
  · rintro ⟨u, _, rfl, h1, a, b, rfl, h2, h3⟩; exact ⟨u ++ a, b, by simp, ⟨u, a, rfl, h1, h2⟩, h3⟩

theorem pow_left (f : Lang) : ∀ (n : Nat) (w : Word), pow f (n + 1) w ↔ cat f (pow f n) w
  | 0, w => by
    show cat (fun w => w = []) f w ↔ cat f (fun w => w = []) w
    rw [cat_eps_left, cat_eps_right]
  | n + 1, w => by
    show cat (pow f (n + 1)) f w ↔ _
    rw [show cat f (pow f (n + 1)) w ↔ cat f (cat (pow f n) f) w from Iff.rfl, ← cat_assoc]
    exact cat_congr (fun u v _ => pow_left f n u) (fun _ _ _ => Iff.rfl)

theorem pow_one (f : Lang) (w : Word) : pow f 1 w ↔ f w := cat_eps_left w

theorem pow_alph {f g : Lang} (h : ∀ w, Alph w → (f w ↔ g w)) : ∀ (n : Nat) (w : Word), Alph w → (pow f n w ↔ pow g n w)
  | 0, _, _ => Iff.rfl
  | n + 1, w, hw => cat_congr (fun u v e => pow_alph h n u (by subst e; exact hw.left)) (fun u v e => h v (by subst e; exact hw.right))

/-- A nullable body: more rounds, more words. -/
theorem pow_up {f : Lang} (h : f []) {n m : Nat} (hnm : n ≤ m) {w : Word} (hw : pow f n w) : pow f m w := by
  induction m with
  | zero => obtain rfl : n = 0 := by omega
            exact hw
  | succ m ih =>
    by_cases e : n = m + 1
    · subst e; exact hw
    · exact ⟨w, [], by simp, ih (by omega), h⟩

/-- Of n rounds those that take no letter can be left out. -/
theorem pow_short {f : Lang} : ∀ (n : Nat) (w : Word), pow f n w → ∃ m, m ≤ w.length ∧ m ≤ n ∧ pow f m w ∧ (m = n ∨ f [])
  | 0, w, h => ⟨0, by omega, by omega, h, Or.inl rfl⟩
  | n + 1, w, h => by
    obtain ⟨u, v, rfl, h1, h2⟩ := h
    obtain ⟨m, hm1, hm2, hm3, hm4⟩ := pow_short n u h1
    cases v with
    | nil =>
      exact ⟨m, by simpa using hm1, by omega, by simpa using hm3, Or.inr h2⟩
    | cons c v =>
      refine ⟨m + 1, by simp; omega, by omega, ⟨u, c :: v, rfl, hm3, h2⟩, ?_⟩
      rcases hm4 with h | h
      · left; omega
      · right; exact h

/-- With no upper bound lo + n is as good as one, for words of at most n letters. -/
theorem pow_bound {f : Lang} {lo n : Nat} {w : Word} (hw : w.length ≤ n) : (∃ k, lo ≤ k ∧ pow f k w) ↔ ∃ k, lo ≤ k ∧ k ≤ lo + n ∧ pow f k w := by
  constructor
  · rintro ⟨k, hk, h⟩
    obtain ⟨m, h1, h2, h3, h4⟩ := pow_short k w h
    rcases h4 with rfl | h4
    · exact ⟨m, hk, by omega, h⟩
    · by_cases hl : lo ≤ m
      · exact ⟨m, hl, by omega, h3⟩
      · exact ⟨lo, Nat.le_refl _, by omega, pow_up h4 (by omega) h3⟩
  · rintro ⟨k, h1, _, h2⟩; exact ⟨k, h1, h2⟩

/-- The derivative of a power. -/
theorem pow_cons {f : Lang} {c : Int} : ∀ (n : Nat) (w : Word), pow f (n + 1) (c :: w) → ∃ m, m ≤ n ∧ cat (fun u => f (c :: u)) (pow f m) w ∧ (m = n ∨ f [])
  | 0, w, h => by
    rw [pow_one] at h
    exact ⟨0, by omega, ⟨w, [], by simp, h, rfl⟩, Or.inl rfl⟩
  | n + 1, w, h => by
    rw [pow_left] at h
    obtain ⟨u, v, e, h1, h2⟩ := h
    cases u with
    | nil =>
      have e' : v = c :: w := by simpa using e.symm
      subst e'
      obtain ⟨m, hm, hc, h3⟩ := pow_cons n w h2
      exact ⟨m, by omega, hc, Or.inr h1⟩
    | cons a u =>
      simp only [List.cons_append, List.cons.injEq] at e
      obtain ⟨rfl, rfl⟩ := e
      exact ⟨n + 1, by omega, ⟨u, v, rfl, h1, h2⟩, Or.inl rfl⟩

theorem pow_cons_back {f : Lang} {c : Int} {n : Nat} {w : Word} (h : cat (fun u => f (c :: u)) (pow f n) w) : pow f (n + 1) (c :: w) := by
  obtain ⟨u, v, rfl, h1, h2⟩ := h
  rw [pow_left]
  exact ⟨c :: u, v, by simp, h1, h2⟩

/-! ### Star and Loop -/
def popc (n : Nat) : Nat := (List.range 64).countP fun i => n.testBit i
def cnt (bits : List Nat) : Nat := (bits.map popc).sum

theorem popc_le (n : Nat) : popc n ≤ 64 := by
  unfold popc
  have := List.countP_le_length (p := fun i => n.testBit i) (l := List.range 64)
  simpa using this

theorem popc_full {n : Nat} (h : popc n = 64) : ∀ i, i < 64 → n.testBit i = true := by
  have : (List.range 64).countP (fun i => n.testBit i) = (List.range 64).length := by simpa [popc] using h
  intro i hi
  exact List.countP_eq_length.1 this i (List.mem_range.2 hi)

theorem cnt_le : ∀ (bits : List Nat), cnt bits ≤ 64 * bits.length
  | [] => by simp [cnt]
  | b :: l => by
    have h1 := cnt_le l
    have h2 := popc_le b
    simp only [cnt, List.map_cons, List.sum_cons, List.length_cons] at *
    omega

theorem cnt_full : ∀ (bits : List Nat), cnt bits = 64 * bits.length → ∀ j, j < bits.length → ∀ i, i < 64 → (bits.getD j 0).testBit i = true
  | [], _, j, hj, _, _ => by simp at hj
  | b :: l, h, j, hj, i, hi => by
    have h1 := cnt_le l
    have h2 := popc_le b
    simp only [cnt, List.map_cons, List.sum_cons, List.length_cons] at h h1
    cases j with
    | zero =>
      have e : popc b = 64 := by omega
      exact popc_full e i hi
    | succ j => exact cnt_full l (by simp only [cnt]; omega) j (by simpa using hj) i hi

theorem hasC_full {bits : List Nat} (hl : bits.length = 3072) (h : cnt bits = 196608) {c : Int} (h0 : 0 ≤ c) (h1 : c ≤ 196607) : hasC bits c = true := by
  unfold hasC
  have := cnt_full bits (by omega) (c.toNat / 64) (by omega) (c.toNat % 64) (Nat.mod_lt _ (by decide))
  simp only [h0, h1, this, decide_true, Bool.and_self]

def starN (A : List Nd) (x : Int) : Nf :=
  if x = 0 ∨ x = 1 then .id 1 else if x = 2 ∨ (nodeAt A x).kind = 8 then .id x
  else if (nodeAt A x).kind = 3 ∧ cnt (nodeAt A x).bits = 196608 then .id 2 else .nd ⟨8, [], [x], 0, 0⟩

theorem pow_none {n : Nat} (w : Word) : pow (fun _ => False) n w ↔ n = 0 ∧ w = [] := by
  cases n with
  | zero => simp [pow]
  | succ n => simp only [Nat.succ_ne_zero, false_and, iff_false]; rintro ⟨u, v, _, _, h⟩; exact h

theorem pow_eps : ∀ (n : Nat) (w : Word), pow (fun w => w = []) n w ↔ w = []
  | 0, w => Iff.rfl
  | n + 1, w => by
    constructor
    · rintro ⟨u, v, rfl, h1, rfl⟩; rw [(pow_eps n u).1 h1]; rfl
    · rintro rfl; exact ⟨[], [], rfl, (pow_eps n []).2 rfl, rfl⟩

theorem pow_sub {f g : Lang} (h0 : g []) (hc : ∀ w, cat g g w → g w) (hf : ∀ w, f w → g w) : ∀ (n : Nat) (w : Word), pow f n w → g w
  | 0, w, h => by rw [show w = [] from h]; exact h0
  | n + 1, w, h => by
    obtain ⟨u, v, rfl, h1, h2⟩ := h
    exact hc _ ⟨u, v, rfl, pow_sub h0 hc hf n u h1, hf v h2⟩

theorem pow_add {f : Lang} : ∀ {m n : Nat} {u v : Word}, pow f n u → pow f m v → pow f (n + m) (u ++ v)
  | 0, n, u, v, h1, h2 => by rw [show v = [] from h2]; simpa using h1
  | m + 1, n, u, v, h1, h2 => by
    obtain ⟨a, b, rfl, h3, h4⟩ := h2
    exact ⟨u ++ a, b, by simp, pow_add h1 h3, h4⟩

theorem star_pow {A : List Nd} (hA : Wf A) {x : Int} (hx : Valid A x) (h : x = 2 ∨ (nodeAt A x).kind = 8) (n : Nat) (w : Word) (hn : pow (lang A x) n w) : lang A x w := by
  rcases h with rfl | h
  · rw [lang2 hA]; trivial
  · have e : lang A x = fun w => ∃ n, pow (lang A (kid (nodeAt A x) 0)) n w := by
      rw [lang_unfold hA hx]
      funext w
      simp [sem, h]
    rw [e] at hn ⊢
    refine pow_sub (f := fun w => ∃ n, pow (lang A (kid (nodeAt A x) 0)) n w) (g := fun w => ∃ n, pow (lang A (kid (nodeAt A x) 0)) n w) ⟨0, rfl⟩ ?_ (fun _ h => h) n w hn
    rintro _ ⟨u, v, rfl, ⟨a, ha⟩, ⟨b, hb⟩⟩
    exact ⟨a + b, pow_add ha hb⟩

theorem starN_lang {A : List Nd} (hA : Wf A) {x : Int} (hx : Valid A x) {w : Word} (hw : Alph w) : langNf A (starN A x) w ↔ ∃ n, pow (lang A x) n w := by
  unfold starN
  split
  · rename_i h
    rw [langNf, lang1 hA]
    rcases h with rfl | rfl
    · rw [lang0 hA]
      simp only [pow_none]
      exact ⟨fun h => ⟨0, rfl, h⟩, fun ⟨n, _, h⟩ => h⟩
    · rw [lang1 hA]
      simp only [pow_eps]
      exact ⟨fun h => ⟨0, h⟩, fun ⟨n, h⟩ => h⟩
  · split
    · rename_i h
      rw [langNf]
      constructor
      · intro h'; exact ⟨1, (pow_one _ _).2 h'⟩
      · rintro ⟨n, hn⟩
        rcases h with rfl | h
        · rw [lang2 hA]; trivial
        · exact star_pow hA hx (Or.inr h) n w hn
    · split
      · rename_i h
        rw [langNf, lang2 hA]
        simp only [true_iff]
        have hbl := ((hA.at hx).cls h.1).1
        have one : ∀ (w : Word), Alph w → pow (lang A x) w.length w := by
          intro w
          induction w with
          | nil => intro _; rfl
          | cons c w ih =>
            intro hw
            show pow (lang A x) (w.length + 1) (c :: w)
            rw [pow_left]
            refine ⟨[c], w, rfl, ?_, ih hw.tail⟩
            rw [lang_unfold hA hx]
            simp only [sem, h.1]
            simp
            exact hasC_full hbl h.2 (hw c (by simp)).1 (hw c (by simp)).2
        exact ⟨_, one w hw⟩
      · simp [langNf, sem, kid]

def loopN (A : List Nd) (x lo hi : Int) : Nf :=
  if hi ≠ -1 ∧ lo > hi then .id 0 else if hi = 0 ∨ x = 1 then .id 1 else if x = 0 ∧ lo = 0 then .id 1 else if x = 0 then .id 0
  else if x = 2 ∨ (nodeAt A x).kind = 8 then .id x else if lo = 1 ∧ hi = 1 then .id x else if lo = 0 ∧ hi = -1 then starN A x
  else .nd ⟨9, [], [x], lo, hi⟩

def loopL (f : Lang) (lo hi : Int) : Lang := fun w => ∃ n : Nat, lo ≤ n ∧ (hi = -1 ∨ (n : Int) ≤ hi) ∧ pow f n w

theorem star_nil {A : List Nd} (hA : Wf A) {x : Int} (hx : Valid A x) (h : x = 2 ∨ (nodeAt A x).kind = 8) : lang A x [] := by
  rcases h with rfl | h
  · rw [lang2 hA]; trivial
  · rw [lang_unfold hA hx]
    simp only [sem, h]
    simp
    exact ⟨0, rfl⟩

theorem loopN_lang {A : List Nd} (hA : Wf A) {x lo hi : Int} (hx : Valid A x) (hlo : 0 ≤ lo) (hhi : -1 ≤ hi) {w : Word} (hw : Alph w) : langNf A (loopN A x lo hi) w ↔ loopL (lang A x) lo hi w := by
  unfold loopN loopL
  split
  · rename_i h
    rw [langNf, lang0 hA]
    refine ⟨False.elim, ?_⟩
    rintro ⟨n, h1, h2, _⟩
    omega
  · rename_i h1
    split
    · rename_i h
      rw [langNf, lang1 hA]
      rcases h with rfl | rfl
      · constructor
        · intro h; exact ⟨0, by omega, by omega, h⟩
        · rintro ⟨n, hn1, hn2, hn3⟩
          obtain rfl : n = 0 := by omega
          exact hn3
      · rw [lang1 hA]
        simp only [pow_eps]
        constructor
        · intro h
          exact ⟨lo.toNat, by omega, by omega, h⟩
        · rintro ⟨n, _, _, h⟩; exact h
    · rename_i h2
      split
      · rename_i h
        obtain ⟨rfl, rfl⟩ := h
        rw [langNf, lang1 hA, lang0 hA]
        simp only [pow_none]
        constructor
        · intro h; exact ⟨0, by omega, by omega, rfl, h⟩
        · rintro ⟨n, _, _, _, h⟩; exact h
      · rename_i h3
        split
        · rename_i h
          subst h
          rw [langNf, lang0 hA]
          simp only [pow_none]
          refine ⟨False.elim, ?_⟩
          rintro ⟨n, a, _, rfl, _⟩
          exact h3 ⟨rfl, by omega⟩
        · split
          · rename_i h
            rw [langNf]
            constructor
            · intro h'
              by_cases hl : lo ≤ 1
              · exact ⟨1, by omega, by omega, (pow_one _ _).2 h'⟩
              · exact ⟨lo.toNat, by omega, by omega, pow_up (star_nil hA hx h) (n := 1) (by omega) ((pow_one _ _).2 h')⟩
            · rintro ⟨n, _, _, hn⟩
              exact star_pow hA hx h n w hn
          · split
            · rename_i h
              obtain ⟨rfl, rfl⟩ := h
              rw [langNf]
              constructor
              · intro h; exact ⟨1, by omega, by omega, (pow_one _ _).2 h⟩
              · rintro ⟨n, a, b, hn⟩
                obtain rfl : n = 1 := by omega
                exact (pow_one _ _).1 hn
            · split
              · rename_i h
                obtain ⟨rfl, rfl⟩ := h
                rw [starN_lang hA hx hw]
                constructor
                · rintro ⟨n, hn⟩; exact ⟨n, by omega, Or.inl rfl, hn⟩
                · rintro ⟨n, _, _, hn⟩; exact ⟨n, hn⟩
              · simp [langNf, sem, kid]

/-! ### well-formedness of what is asked for -/
def NfOk (A : List Nd) : Nf → Prop
  | .id x => Valid A x
  | .nd n => NdOk A A.length n

theorem concatN_ok {A : List Nd} (hA : Wf A) {x y : Int} (hx : Valid A x) (hy : Valid A y) : NfOk A (concatN x y) := by
  unfold concatN
  split
  · exact hA.v0
  · split
    · exact hy
    · split
      · exact hx
      · rename_i h1 h2 h3
        refine ⟨?_, by simp, fun _ => ⟨_, _, rfl⟩, by simp, by simp, by simp, by simp, by simp, by simp, by have := hA.three_le; simp; omega, by simp, ⟨fun _ k hk => ?_, by simp, by simp, by simp, by simp, by simp⟩⟩
        · intro k hk
          simp at hk
          rcases hk with rfl | rfl
          · exact hx
          · exact hy
        · simp at hk
          rcases hk with rfl | rfl
          · exact ⟨fun e => h1 (Or.inl e), h2⟩
          · exact ⟨fun e => h1 (Or.inr e), h3⟩

theorem flat_valid {A : List Nd} (hA : Wf A) {kind unit : Int} {xs : List Int} (hx : ∀ x ∈ xs, Valid A x) {z : Int} (h : z ∈ flat A kind unit xs) : Valid A z := parts_valid hA hx (mem_flat.1 h)

/-! ### sorted and without repeats: few -/
theorem nodup_le : ∀ (N : Nat) (l : List Nat), l.Nodup → (∀ x ∈ l, x < N) → l.length ≤ N
  | 0, l, _, h => by
    cases l with
    | nil => simp
    | cons a l => exact absurd (h a (by simp)) (by omega)
  | N + 1, l, hn, h => by
    have h1 := nodup_le N (l.filter (· ≠ N)) (hn.filter _) (by
      intro x hx
      have := List.mem_filter.1 hx
      have h2 := h x this.1
      simp at this
      omega)
    have h2 : l.length ≤ (l.filter (· ≠ N)).length + 1 := by
      clear h1 h
      induction l with
      | nil => simp
      | cons a l ih =>
        obtain ⟨ha, hn⟩ := List.nodup_cons.1 hn
        by_cases e : a = N
        · subst e
          have e2 : l.filter (fun x => decide (x ≠ a)) = l := List.filter_eq_self.2 (fun x hx => by simp; rintro rfl; exact ha hx)
          rw [List.filter_cons_of_neg (by simp), e2]
          simp
        · have := ih hn
          rw [List.filter_cons_of_pos (by simpa using e)]
          simp only [List.length_cons]
          omega
    omega

theorem srt_sorted (l : List Int) : (srt l).Pairwise (· ≤ ·) := by
  have := List.pairwise_mergeSort (le := fun x y : Int => decide (x ≤ y)) (fun a b c h1 h2 => by simp at *; omega) (fun a b => by simp; omega) l
  unfold srt
  exact this.imp (by intro a b h; simpa using h)

theorem compactUpTo_rising (d : Array Int) (hd : ∀ i j, i ≤ j → j < d.size → d[i]! ≤ d[j]!) : ∀ m, m ≤ d.size → (Lib.compactUpTo d m).Pairwise (· < ·)
  | 0, _ => by simp [Lib.compactUpTo]
  | m + 1, hm => by
    rw [Lib.compactUpTo_succ]
    have ih := compactUpTo_rising d hd m (by omega)
    by_cases hk : Lib.keeps d m = true
    · simp only [hk, if_true]
      rw [List.pairwise_append]
      refine ⟨ih, by simp, fun a ha b hb => ?_⟩
      rw [List.mem_singleton.1 hb]
      obtain ⟨j, hj, rfl⟩ := (mem_compactUpTo d m a).1 ha
      simp only [Lib.keeps, decide_eq_true_eq] at hk
      rcases hk with hk | hk
      · omega
      · have h1 := hd j (m - 1) (by omega) (by omega)
        have h2 := hd (m - 1) m (by omega) (by omega)
        omega
    · simp only [hk]
      simpa using ih

theorem flat_rising {A : List Nd} {kind unit : Int} {xs : List Int} : (flat A kind unit xs).Pairwise (· < ·) := by
  unfold flat Lib.compact
  have hs := srt_sorted (parts A kind unit xs)
  generalize srt (parts A kind unit xs) = l at hs
  have := compactUpTo_rising l.toArray (fun i j hij hj => by
    have hj' : j < l.length := by simpa using hj
    rw [getElem!_pos l.toArray i (by simp; omega), getElem!_pos l.toArray j hj]
    simp only [List.getElem_toArray]
    by_cases e : i = j
    · subst e; exact Int.le_refl _
    · exact List.pairwise_iff_getElem.1 hs i j (by omega) hj' (by omega)) l.length (by simp)
  exact this

theorem flat_few {A : List Nd} (hA : Wf A) {kind unit : Int} {xs : List Int} (hx : ∀ x ∈ xs, Valid A x) : (flat A kind unit xs).length ≤ A.length := by
  have hr := flat_rising (A := A) (kind := kind) (unit := unit) (xs := xs)
  have hv : ∀ z ∈ flat A kind unit xs, Valid A z := fun z hz => flat_valid hA hx hz
  generalize flat A kind unit xs = l at hr hv
  have := nodup_le A.length (l.map Int.toNat) (by
    unfold List.Nodup
    rw [List.pairwise_map]
    rw [List.pairwise_iff_getElem] at hr ⊢
    intro i j hi hj hij e
    have h1 := hr i j hi hj hij
    have h2 := hv l[i] (List.getElem_mem hi)
    have h3 := hv l[j] (List.getElem_mem hj)
    unfold Valid at h2 h3
    omega) (by
    intro x hx'
    obtain ⟨z, hz, rfl⟩ := List.mem_map.1 hx'
    exact (hv z hz).2)
  simpa using this

theorem flat_mem {A : List Nd} {kind unit : Int} {xs : List Int} {z : Int} (hz : z ∈ flat A kind unit xs) : ∃ x ∈ xs, ((nodeAt A x).kind = kind ∧ z ∈ (nodeAt A x).kids) ∨ ((nodeAt A x).kind ≠ kind ∧ x ≠ unit ∧ z = x) := by
  unfold flat srt at hz
  rw [mem_compact, List.mem_mergeSort] at hz
  unfold parts at hz
  obtain ⟨x, hx, hz⟩ := List.mem_flatMap.1 hz
  refine ⟨x, hx, ?_⟩
  split at hz
  · rename_i h; exact Or.inl ⟨h, hz⟩
  · rename_i h
    split at hz
    · rename_i h2; exact Or.inr ⟨h, h2, List.mem_singleton.1 hz⟩
    · cases hz
theorem flat_mem_uni {A : List Nd} (hA : Wf A) {xs : List Int} (hx : ∀ x ∈ xs, Valid A x) {z : Int} (hz : z ∈ flat A 5 0 xs) : z ≠ 0 ∧ (nodeAt A z).kind ≠ 5 := by
  obtain ⟨x, hxm, h | h⟩ := flat_mem hz
  · have := ((hA.at (hx x hxm)).nrm.uni h.1).2.2 z h.2
    exact ⟨this.1, this.2.2⟩
  · rw [h.2.2]; exact ⟨h.2.1, h.1⟩
theorem flat_mem_int {A : List Nd} (hA : Wf A) {xs : List Int} (hx : ∀ x ∈ xs, Valid A x) {z : Int} (hz : z ∈ flat A 6 2 xs) : z ≠ 2 ∧ (nodeAt A z).kind ≠ 6 := by
  obtain ⟨x, hxm, h | h⟩ := flat_mem hz
  · have := ((hA.at (hx x hxm)).nrm.int h.1).2.2 z h.2
    exact ⟨this.2.1, this.2.2⟩
  · rw [h.2.2]; exact ⟨h.2.1, h.1⟩

theorem unionN_ok {A : List Nd} (hA : Wf A) {xs : List Int} (hx : ∀ x ∈ xs, Valid A x) : NfOk A (unionN A xs) := by
  unfold unionN
  have hf : ∀ z ∈ flat A 5 0 xs, Valid A z := fun z hz => flat_valid hA hx hz
  have hw : (flat A 5 0 xs).length ≤ A.length := flat_few hA hx
  have hr := flat_rising (A := A) (kind := 5) (unit := 0) (xs := xs)
  have hm : ∀ z ∈ flat A 5 0 xs, z ≠ 0 ∧ (nodeAt A z).kind ≠ 5 := fun z hz => flat_mem_uni hA hx hz
  generalize flat A 5 0 xs = p at hf hw hr hm
  simp only
  split
  · exact hA.v2
  · split
    · exact hA.v0
    · split
      · rename_i h
        obtain ⟨a, rfl⟩ := List.length_eq_one_iff.1 h
        exact hf a (by simp)
      · rename_i hc hz h1
        exact ⟨fun k hk => hf k hk, by simp, by simp, by simp, by simp, by simp, by simp, by simp, by simp, hw, fun _ e => hz (by rw [show p = [] from e]; rfl), ⟨by simp, fun _ => ⟨by show 2 ≤ p.length; omega, hr, fun k hk => ⟨(hm k hk).1, fun e => hc (by rw [← e]; simpa using hk), (hm k hk).2⟩⟩, by simp, by simp, by simp, by simp⟩⟩

theorem interN_ok {A : List Nd} (hA : Wf A) {xs : List Int} (hx : ∀ x ∈ xs, Valid A x) : NfOk A (interN A xs) := by
  unfold interN
  have hf : ∀ z ∈ flat A 6 2 xs, Valid A z := fun z hz => flat_valid hA hx hz
  have hw : (flat A 6 2 xs).length ≤ A.length := flat_few hA hx
  have hr := flat_rising (A := A) (kind := 6) (unit := 2) (xs := xs)
  have hm : ∀ z ∈ flat A 6 2 xs, z ≠ 2 ∧ (nodeAt A z).kind ≠ 6 := fun z hz => flat_mem_int hA hx hz
  generalize flat A 6 2 xs = p at hf hw hr hm
  simp only
  split
  · exact hA.v0
  · split
    · exact hA.v2
    · split
      · rename_i h
        obtain ⟨a, rfl⟩ := List.length_eq_one_iff.1 h
        exact hf a (by simp)
      · rename_i hc hz h1
        exact ⟨fun k hk => hf k hk, by simp, by simp, by simp, by simp, by simp, by simp, by simp, by simp, hw, fun _ e => hz (by rw [show p = [] from e]; rfl), ⟨by simp, by simp, fun _ => ⟨by show 2 ≤ p.length; omega, hr, fun k hk => ⟨fun e => hc (by rw [← e]; simpa using hk), (hm k hk).1, (hm k hk).2⟩⟩, by simp, by simp, by simp⟩⟩

theorem one_ok {A : List Nd} {x : Int} (hx : Valid A x) {k : Int} (hk : k = 7 ∨ k = 8) (hn : Nrm A ⟨k, [], [x], 0, 0⟩) : NdOk A A.length ⟨k, [], [x], 0, 0⟩ := by
  refine ⟨?_, ?_, ?_, fun _ => ⟨_, rfl⟩, ?_, ?_, ?_, ?_, ?_, ?_, ?_, hn⟩
  · intro z hz; simp at hz; subst hz; exact hx
  all_goals have hx2 := hx.2
  all_goals rcases hk with rfl | rfl <;> simp <;> omega

theorem compN_ok {A : List Nd} (hA : Wf A) {x : Int} (hx : Valid A x) : NfOk A (compN A x) := by
  unfold compN
  split
  · exact hA.v2
  · split
    · exact hA.v0
    · split
      · rename_i h
        obtain ⟨a, e⟩ := (hA.at hx).one (Or.inl h)
        have : a ∈ (nodeAt A x).kids := by simp [e]
        simp only [kid, e]
        exact (hA.kidValid hx this).1
      · rename_i h1 h2 h3
        exact one_ok hx (Or.inl rfl) ⟨by simp, by simp, by simp, fun _ k hk => by rw [List.mem_singleton.1 hk]; exact ⟨h1, h2, h3⟩, by simp, by simp⟩

theorem starN_ok {A : List Nd} (hA : Wf A) {x : Int} (hx : Valid A x) : NfOk A (starN A x) := by
  unfold starN
  split
  · exact hA.v1
  · split
    · exact hx
    · split
      · exact hA.v2
      · rename_i h1 h2 _
        exact one_ok hx (Or.inr rfl) ⟨by simp, by simp, by simp, by simp, fun _ k hk => by rw [List.mem_singleton.1 hk]; exact ⟨fun e => h1 (Or.inl e), fun e => h1 (Or.inr e), fun e => h2 (Or.inl e), fun e => h2 (Or.inr e)⟩, by simp⟩

theorem loopN_ok {A : List Nd} (hA : Wf A) {x lo hi : Int} (hx : Valid A x) (hlo : 0 ≤ lo) (hlo5 : lo ≤ 5) (hhi : -1 ≤ hi) (hhi5 : hi ≤ 5) : NfOk A (loopN A x lo hi) := by
  unfold loopN
  split
  · exact hA.v0
  · split
    · exact hA.v1
    · split
      · exact hA.v1
      · split
        · exact hA.v0
        · split
          · exact hx
          · split
            · exact hx
            · split
              · exact starN_ok hA hx
              · rename_i q1 q2 q3 q4 q5 q6 q7
                refine ⟨?_, by simp, by simp, fun _ => ⟨_, rfl⟩, by simp, by simp, by simp, fun _ => ⟨hlo, hlo5, hhi5, ?_⟩, by simp, by have := hx.2; simp; omega, by simp, ⟨by simp, by simp, by simp, by simp, by simp, fun _ => ⟨fun k hk => by rw [List.mem_singleton.1 hk]; exact ⟨q4, fun e => q2 (Or.inr e), fun e => q5 (Or.inl e), fun e => q5 (Or.inr e)⟩, q6⟩⟩⟩
                · intro z hz; simp at hz; subst hz; exact hx
                · simp only
                  omega
end Go.Proofs.Qxb6500848aGreatDoor.Pl
