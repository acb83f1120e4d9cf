/-
  The plain side: unions and intersections as sets; their derivatives.
-/
import Derived.Test.Qxb6500848aGreatDoorPlainG
namespace Go.Proofs.Qxb6500848aGreatDoor.Pl

theorem rising_ext : ∀ {l m : List Int}, l.Pairwise (· < ·) → m.Pairwise (· < ·) → (∀ z, z ∈ l ↔ z ∈ m) → l = m
  | [], [], _, _, _ => rfl
  | [], b :: m, _, _, h => absurd ((h b).2 (List.mem_cons_self ..)) (by simp)
  | a :: l, [], _, _, h => absurd ((h a).1 (List.mem_cons_self ..)) (by simp)
  | a :: l, b :: m, h1, h2, h => by
    obtain ⟨p1, p2⟩ := List.pairwise_cons.1 h1
    obtain ⟨q1, q2⟩ := List.pairwise_cons.1 h2
    have e : a = b := by
      rcases List.mem_cons.1 ((h a).1 (List.mem_cons_self ..)) with e | e
      · exact e
      · rcases List.mem_cons.1 ((h b).2 (List.mem_cons_self ..)) with e2 | e2
        · exact e2.symm
        · have := q1 a e
          have := p1 b e2
          omega
    subst e
    have : l = m := rising_ext p2 q2 (fun z => ⟨fun hz => by
      rcases List.mem_cons.1 ((h z).1 (List.mem_cons_of_mem _ hz)) with e | e
      · have := p1 z hz; omega
      · exact e, fun hz => by
      rcases List.mem_cons.1 ((h z).2 (List.mem_cons_of_mem _ hz)) with e | e
      · have := q1 z hz; omega
      · exact e⟩)
    rw [this]

/-- Union and Inter in one. -/
def norN (A : List Nd) (k u o : Int) (xs : List Int) : Nf :=
  let p := flat A k u xs
  if p.contains o then .id o else if p.length = 0 then .id u else if p.length = 1 then .id (p.getD 0 0) else .nd ⟨k, [], p, 0, 0⟩
theorem unionN_nor (A : List Nd) (xs : List Int) : unionN A xs = norN A 5 0 2 xs := rfl
theorem interN_nor (A : List Nd) (xs : List Int) : interN A xs = norN A 6 2 0 xs := rfl

structure Kuo (A : List Nd) (k u o : Int) : Prop where
  uo : o ≠ u
  vu : Valid A u
  vo : Valid A o
  ku : (nodeAt A u).kind ≠ k
  ko : (nodeAt A o).kind ≠ k
  k3 : k ≠ 3 ∧ k ≠ 9
  nd : ∀ x, Valid A x → (nodeAt A x).kind = k → 2 ≤ (nodeAt A x).kids.length ∧ (nodeAt A x).kids.Pairwise (· < ·) ∧ ∀ q ∈ (nodeAt A x).kids, q ≠ u ∧ q ≠ o ∧ (nodeAt A q).kind ≠ k
theorem kuo5 {A : List Nd} (hA : Wf A) : Kuo A 5 0 2 := ⟨by decide, hA.v0, hA.v2, by rw [hA.at0]; decide, by rw [hA.at2]; decide, by decide, fun _ hx h => (hA.at hx).nrm.uni h⟩
theorem kuo6 {A : List Nd} (hA : Wf A) : Kuo A 6 2 0 := ⟨by decide, hA.v2, hA.v0, by rw [hA.at2]; decide, by rw [hA.at0]; decide, by decide, fun _ hx h => by
  obtain ⟨h1, h2, h3⟩ := (hA.at hx).nrm.int h
  exact ⟨h1, h2, fun q hq => ⟨(h3 q hq).2.1, (h3 q hq).1, (h3 q hq).2.2⟩⟩⟩

section
variable {A : List Nd} {k u o : Int}
theorem mem_parts {xs : List Int} {z : Int} : z ∈ parts A k u xs ↔ ∃ x ∈ xs, ((nodeAt A x).kind = k ∧ z ∈ (nodeAt A x).kids) ∨ ((nodeAt A x).kind ≠ k ∧ x ≠ u ∧ z = x) := by
  unfold parts
  rw [List.mem_flatMap]
  constructor
  · rintro ⟨x, hx, h⟩
    refine ⟨x, hx, ?_⟩
    split at h
    · rename_i e; exact Or.inl ⟨e, h⟩
    · rename_i e
      split at h
      · rename_i e2; exact Or.inr ⟨e, e2, List.mem_singleton.1 h⟩
      · cases h
  · rintro ⟨x, hx, ⟨e, h⟩ | ⟨e, e2, rfl⟩⟩
    · exact ⟨x, hx, by rw [if_pos e]; exact h⟩
    · exact ⟨z, hx, by rw [if_neg e, if_pos e2]; exact List.mem_singleton.2 rfl⟩
theorem parts_one {xs : List Int} {z : Int} : z ∈ parts A k u xs ↔ ∃ x ∈ xs, z ∈ parts A k u [x] := by
  rw [mem_parts]
  constructor
  · rintro ⟨x, hx, h⟩; exact ⟨x, hx, mem_parts.2 ⟨x, by simp, h⟩⟩
  · rintro ⟨x, hx, h⟩
    obtain ⟨y, hy, h⟩ := mem_parts.1 h
    rw [List.mem_singleton.1 hy] at h
    exact ⟨x, hx, h⟩
theorem parts_flat (xs : List Int) : parts A k u xs = xs.flatMap (fun x => parts A k u [x]) := by
  unfold parts
  simp

theorem nor_ext {xs ys : List Int} (h : (o ∈ parts A k u xs ∧ o ∈ parts A k u ys) ∨ ∀ z, z ∈ parts A k u xs ↔ z ∈ parts A k u ys) : norN A k u o xs = norN A k u o ys := by
  rcases h with ⟨h1, h2⟩ | h
  · have e1 : (flat A k u xs).contains o = true := by rw [List.contains_iff_mem]; exact mem_flat.2 h1
    have e2 : (flat A k u ys).contains o = true := by rw [List.contains_iff_mem]; exact mem_flat.2 h2
    unfold norN
    simp only [e1, e2, if_true]
  · have e : flat A k u xs = flat A k u ys := rising_ext flat_rising flat_rising (fun z => by rw [mem_flat, mem_flat]; exact h z)
    unfold norN
    rw [e]
theorem nor_o {xs : List Int} (h : o ∈ parts A k u xs) : norN A k u o xs = .id o := by
  have e1 : (flat A k u xs).contains o = true := by rw [List.contains_iff_mem]; exact mem_flat.2 h
  unfold norN
  simp only [e1, if_true]
theorem mem_o (K : Kuo A k u o) {xs : List Int} (h : o ∈ xs) : o ∈ parts A k u xs := mem_parts.2 ⟨o, h, Or.inr ⟨K.ko, K.uo, rfl⟩⟩

theorem Val.parts (K : Kuo A k u o) {xs : List Int} (hx : ∀ x ∈ xs, Valid A x) {z : Int} (hv : Val A (norN A k u o xs) z) :
    (o ∈ Pl.parts A k u xs ∧ z = o) ∨ (o ∉ Pl.parts A k u xs ∧ ∀ q, q ∈ Pl.parts A k u [z] ↔ q ∈ Pl.parts A k u xs) := by
  by_cases ho : o ∈ Pl.parts A k u xs
  · rw [nor_o ho] at hv
    exact Or.inl ⟨ho, hv.1.symm⟩
  · refine Or.inr ⟨ho, fun q => ?_⟩
    have e1 : (flat A k u xs).contains o = false := by
      rw [Bool.eq_false_iff]
      intro e
      exact ho (mem_flat.1 (List.contains_iff_mem.1 e))
    have hm : ∀ q, q ∈ flat A k u xs ↔ q ∈ Pl.parts A k u xs := fun q => mem_flat
    have hq : ∀ q ∈ flat A k u xs, (nodeAt A q).kind ≠ k ∧ q ≠ u := fun q hq => by
      obtain ⟨x, hx1, h | h⟩ := mem_parts.1 (mem_flat.1 hq)
      · have := (K.nd x (hx x hx1) h.1).2.2 q h.2
        exact ⟨this.2.2, this.1⟩
      · rw [h.2.2]; exact ⟨h.1, h.2.1⟩
    unfold norN at hv
    simp only [e1] at hv
    rw [if_neg (by simp)] at hv
    split at hv
    · rename_i h0
      have e0 : flat A k u xs = [] := List.length_eq_zero_iff.1 h0
      have ez : z = u := hv.1.symm
      rw [← hm, e0, ez]
      constructor
      · intro h
        obtain ⟨x, hx, h⟩ := mem_parts.1 h
        rw [List.mem_singleton.1 hx] at h
        rcases h with h | h
        · exact absurd h.1 K.ku
        · exact absurd rfl h.2.1
      · intro h; cases h
    · split at hv
      · rename_i h1
        obtain ⟨a, e⟩ := List.length_eq_one_iff.1 h1
        have ez : z = a := by have := hv.1; rw [e] at this; exact this.symm
        have ha := hq a (by rw [e]; simp)
        rw [← hm, e, ez]
        constructor
        · intro h
          obtain ⟨x, hx, h⟩ := mem_parts.1 h
          rw [List.mem_singleton.1 hx] at h
          rcases h with h | h
          · exact absurd h.1 ha.1
          · rw [h.2.2]; simp
        · intro h
          rw [List.mem_singleton.1 h]
          exact mem_parts.2 ⟨a, by simp, Or.inr ⟨ha.1, ha.2, rfl⟩⟩
      · have e := hv.2
        rw [← hm]
        constructor
        · intro h
          obtain ⟨x, hx, h⟩ := mem_parts.1 h
          rw [List.mem_singleton.1 hx, e] at h
          rcases h with h | h
          · exact h.2
          · exact absurd rfl h.1
        · intro h
          exact mem_parts.2 ⟨z, by simp, Or.inl ⟨by rw [e], by rw [e]; exact h⟩⟩

theorem nor_self (hA : Wf A) (K : Kuo A k u o) {z : Int} (hz : Valid A z) : Val A (norN A k u o [z]) z := by
  by_cases ho : z = o
  · subst ho
    rw [nor_o (mem_o K (by simp))]
    exact ⟨rfl, hz⟩
  · by_cases hk : (nodeAt A z).kind = k
    · obtain ⟨h1, h2, h3⟩ := K.nd z hz hk
      have e : flat A k u [z] = (nodeAt A z).kids := rising_ext flat_rising h2 (fun q => by
        rw [mem_flat, mem_parts]
        constructor
        · rintro ⟨x, hx, h⟩
          rw [List.mem_singleton.1 hx] at h
          rcases h with h | h
          · exact h.2
          · exact absurd hk h.1
        · intro h; exact ⟨z, by simp, Or.inl ⟨hk, h⟩⟩)
      have e1 : (flat A k u [z]).contains o = false := by
        rw [Bool.eq_false_iff]
        intro q
        rw [List.contains_iff_mem, e] at q
        exact (h3 o q).2.1 rfl
      unfold norN
      simp only [e1]
      rw [if_neg (by simp), if_neg (by rw [e]; omega), if_neg (by rw [e]; omega), e]
      refine ⟨hz, ?_⟩
      have b1 := (hA.at hz).bits (by rw [hk]; exact K.k3.1)
      have b2 := (hA.at hz).plain (by rw [hk]; exact K.k3.2)
      generalize nodeAt A z = nd at *
      obtain ⟨kd, bs, ks, lo, hi⟩ := nd
      simp only at hk b1 b2 ⊢
      rw [hk, b1, b2.1, b2.2]
    · by_cases hu : z = u
      · have e : flat A k u [z] = [] := rising_ext flat_rising List.Pairwise.nil (fun q => by
          rw [mem_flat, mem_parts]
          constructor
          · rintro ⟨x, hx, h⟩
            rw [List.mem_singleton.1 hx] at h
            rcases h with h | h
            · exact absurd h.1 hk
            · exact absurd hu h.2.1
          · intro h; cases h)
        unfold norN
        rw [e]
        exact ⟨hu.symm, hz⟩
      · have e : flat A k u [z] = [z] := rising_ext flat_rising (by simp) (fun q => by
          rw [mem_flat, mem_parts]
          constructor
          · rintro ⟨x, hx, h⟩
            rw [List.mem_singleton.1 hx] at h
            rcases h with h | h
            · exact absurd h.1 hk
            · rw [h.2.2]; simp
          · intro h
            rw [List.mem_singleton.1 h]
            exact ⟨z, by simp, Or.inr ⟨hk, hu, rfl⟩⟩)
        have e1 : ([z] : List Int).contains o = false := by
          rw [Bool.eq_false_iff]
          intro q
          rw [List.contains_iff_mem] at q
          exact ho (List.mem_singleton.1 q).symm
        unfold norN
        rw [e]
        simp only [e1]
        rw [if_neg (by simp), if_neg (by simp), if_pos (by simp)]
        exact ⟨rfl, hz⟩

/-- A union of unions. -/
theorem nor_flat {α : Type} (K : Kuo A k u o) {xs : List α} {g : α → List Int} {h : α → Int} (hg : ∀ x ∈ xs, ∀ y ∈ g x, Valid A y) (hv : ∀ x ∈ xs, Val A (norN A k u o (g x)) (h x)) :
    norN A k u o (xs.map h) = norN A k u o (xs.flatMap g) := by
  have pm : ∀ q, q ∈ parts A k u (xs.map h) ↔ ∃ x ∈ xs, q ∈ parts A k u [h x] := fun q => by
    rw [parts_one]
    constructor
    · rintro ⟨y, hy, hq⟩
      obtain ⟨x, hx, rfl⟩ := List.mem_map.1 hy
      exact ⟨x, hx, hq⟩
    · rintro ⟨x, hx, hq⟩; exact ⟨h x, List.mem_map.2 ⟨x, hx, rfl⟩, hq⟩
  have pf : ∀ q, q ∈ parts A k u (xs.flatMap g) ↔ ∃ x ∈ xs, q ∈ parts A k u (g x) := fun q => by
    rw [parts_one]
    constructor
    · rintro ⟨y, hy, hq⟩
      obtain ⟨x, hx, hyx⟩ := List.mem_flatMap.1 hy
      exact ⟨x, hx, parts_one.2 ⟨y, hyx, hq⟩⟩
    · rintro ⟨x, hx, hq⟩
      obtain ⟨y, hy, hq⟩ := parts_one.1 hq
      exact ⟨y, List.mem_flatMap.2 ⟨x, hx, hy⟩, hq⟩
  apply nor_ext
  by_cases ho : o ∈ parts A k u (xs.map h)
  · left
    refine ⟨ho, (pf o).2 ?_⟩
    obtain ⟨x, hx, hq⟩ := (pm o).1 ho
    rcases (hv x hx).parts K (hg x hx) with ⟨h1, _⟩ | ⟨_, h2⟩
    · exact ⟨x, hx, h1⟩
    · exact ⟨x, hx, (h2 o).1 hq⟩
  · right
    intro q
    rw [pm, pf]
    have key : ∀ x ∈ xs, ∀ q, q ∈ parts A k u [h x] ↔ q ∈ parts A k u (g x) := fun x hx => by
      rcases (hv x hx).parts K (hg x hx) with ⟨h1, h2⟩ | ⟨_, h2⟩
      · exact absurd ((pm o).2 ⟨x, hx, by rw [h2]; exact mem_o K (by simp)⟩) ho
      · exact h2
    constructor
    · rintro ⟨x, hx, hq⟩; exact ⟨x, hx, (key x hx q).1 hq⟩
    · rintro ⟨x, hx, hq⟩; exact ⟨x, hx, (key x hx q).2 hq⟩
/-- Only the set counts. -/
theorem nor_set {xs ys : List Int} (h : ∀ z, z ≠ u → (z ∈ xs ↔ z ∈ ys)) (K : Kuo A k u o) : norN A k u o xs = norN A k u o ys := by
  apply nor_ext
  right
  intro q
  rw [mem_parts, mem_parts]
  have go : ∀ {l m : List Int}, (∀ z, z ≠ u → z ∈ l → z ∈ m) → (∃ x ∈ l, ((nodeAt A x).kind = k ∧ q ∈ (nodeAt A x).kids) ∨ ((nodeAt A x).kind ≠ k ∧ x ≠ u ∧ q = x)) → ∃ x ∈ m, ((nodeAt A x).kind = k ∧ q ∈ (nodeAt A x).kids) ∨ ((nodeAt A x).kind ≠ k ∧ x ≠ u ∧ q = x) := fun hs ⟨x, hx, hh⟩ => by
    refine ⟨x, hs x (fun e => ?_) hx, hh⟩
    rcases hh with h | h
    · rw [e] at h; exact K.ku h.1
    · exact h.2.1 e
  exact ⟨go (fun z hz => (h z hz).1), go (fun z hz => (h z hz).2)⟩
end

/-! ### derivatives -/
open Classical in
noncomputable def dv (A : List Nd) (c x : Int) : Int := if h : ∃ z, Der A c x z then Classical.choose h else 0
theorem dv_eq {A : List Nd} (hA : Wf A) {c x z : Int} (h : Der A c x z) : dv A c x = z := by
  have hx : ∃ z, Der A c x z := ⟨z, h⟩
  unfold dv
  rw [dif_pos hx]
  exact (Classical.choose_spec hx).uniq hA h
theorem dv_der {A : List Nd} (hA : Wf A) {c x z : Int} (h : Der A c x z) : Der A c x (dv A c x) := by rw [dv_eq hA h]; exact h

structure Kd (A : List Nd) (c k u o : Int) : Prop where
  du : ∀ z, Der A c u z → z = u
  do_ : ∀ z, Der A c o z → z = o
  dk : ∀ x z, Valid A x → (nodeAt A x).kind = k → Der A c x z → (∀ q ∈ (nodeAt A x).kids, Der A c q (dv A c q)) ∧ Val A (norN A k u o ((nodeAt A x).kids.map (dv A c))) z

theorem der0 {A : List Nd} (hA : Wf A) {c z : Int} (h : Der A c 0 z) : z = 0 := by
  have e := hA.at0
  cases h with
  | none h => rfl
  | dead h => rfl
  | all h => rw [e] at h; cases h
  | cls h => rw [e] at h; cases h
  | cat1 h => rw [e] at h; cases h
  | cat2 h => rw [e] at h; cases h
  | uni h => rw [e] at h; cases h
  | int h => rw [e] at h; cases h
  | comp h => rw [e] at h; cases h
  | star h => rw [e] at h; cases h
  | loop h => rw [e] at h; cases h
theorem der1 {A : List Nd} (hA : Wf A) {c z : Int} (h : Der A c 1 z) : z = 0 := by
  have e := hA.at1
  cases h with
  | none h => rfl
  | dead h => rfl
  | all h => rw [e] at h; cases h
  | cls h => rw [e] at h; cases h
  | cat1 h => rw [e] at h; cases h
  | cat2 h => rw [e] at h; cases h
  | uni h => rw [e] at h; cases h
  | int h => rw [e] at h; cases h
  | comp h => rw [e] at h; cases h
  | star h => rw [e] at h; cases h
  | loop h => rw [e] at h; cases h
theorem der2 {A : List Nd} (hA : Wf A) {c z : Int} (h : Der A c 2 z) : z = 2 := by
  have e := hA.at2
  cases h with
  | all h => rfl
  | none h => rw [e] at h; rcases h with h | h <;> cases h
  | dead h => rw [e] at h; rcases h with h | h <;> cases h
  | cls h => rw [e] at h; cases h
  | cat1 h => rw [e] at h; cases h
  | cat2 h => rw [e] at h; cases h
  | uni h => rw [e] at h; cases h
  | int h => rw [e] at h; cases h
  | comp h => rw [e] at h; cases h
  | star h => rw [e] at h; cases h
  | loop h => rw [e] at h; cases h

theorem ders_map {A : List Nd} (hA : Wf A) {c : Int} {nd : Nd} {ds : List Int} (hl : ds.length = nd.kids.length) (hd : ∀ i, i < ds.length → Der A c (kid nd i) (ds.getD i 0)) : ds = nd.kids.map (dv A c) ∧ ∀ q ∈ nd.kids, Der A c q (dv A c q) := by
  constructor
  · apply List.ext_getElem
    · simp [hl]
    · intro i h1 h2
      have := hd i h1
      rw [getD_lt h1] at this
      have e : kid nd i = nd.kids[i]'(by omega) := getD_lt (by omega) _
      rw [e] at this
      rw [List.getElem_map, dv_eq hA this]
  · intro q hq
    obtain ⟨i, hi, rfl⟩ := List.getElem_of_mem hq
    have := hd i (by omega)
    have e : kid nd i = nd.kids[i] := getD_lt hi _
    rw [e] at this
    exact dv_der hA this
theorem kd5 {A : List Nd} (hA : Wf A) (c : Int) : Kd A c 5 0 2 := ⟨fun _ h => der0 hA h, fun _ h => der2 hA h, fun x z hx hk h => by
  cases h with
  | uni h ds hl hd hv =>
    obtain ⟨e, h2⟩ := ders_map hA hl hd
    rw [e] at hv
    exact ⟨h2, hv⟩
  | none h => omega
  | dead h => omega
  | all h => omega
  | cls h => omega
  | cat1 h => omega
  | cat2 h => omega
  | int h => omega
  | comp h => omega
  | star h => omega
  | loop h => omega⟩
theorem kd6 {A : List Nd} (hA : Wf A) (c : Int) : Kd A c 6 2 0 := ⟨fun _ h => der2 hA h, fun _ h => der0 hA h, fun x z hx hk h => by
  cases h with
  | int h ds hl hd hv =>
    obtain ⟨e, h2⟩ := ders_map hA hl hd
    rw [e] at hv
    exact ⟨h2, hv⟩
  | none h => omega
  | dead h => omega
  | all h => omega
  | cls h => omega
  | cat1 h => omega
  | cat2 h => omega
  | uni h => omega
  | comp h => omega
  | star h => omega
  | loop h => omega⟩

theorem nor_parts {A : List Nd} {c k u o : Int} (hA : Wf A) (K : Kuo A k u o) (D : Kd A c k u o) {xs : List Int} (hx : ∀ x ∈ xs, Valid A x) (hd : ∀ x ∈ xs, Der A c x (dv A c x)) : norN A k u o (xs.map (dv A c)) = norN A k u o ((parts A k u xs).map (dv A c)) := by
  have e : (parts A k u xs).map (dv A c) = xs.flatMap (fun x => (parts A k u [x]).map (dv A c)) := by rw [parts_flat, List.map_flatMap]
  rw [e]
  have hdp : ∀ x ∈ xs, ∀ q ∈ parts A k u [x], Valid A q ∧ Der A c q (dv A c q) := fun x hxm q hq => by
    obtain ⟨y, hy, h⟩ := mem_parts.1 hq
    rw [List.mem_singleton.1 hy] at h
    rcases h with h | h
    · exact ⟨(hA.kidValid (hx x hxm) h.2).1, (D.dk x _ (hx x hxm) h.1 (hd x hxm)).1 q h.2⟩
    · rw [h.2.2]; exact ⟨hx x hxm, hd x hxm⟩
  refine nor_flat K (fun x hxm y hy => ?_) (fun x hxm => ?_)
  · obtain ⟨q, hq, rfl⟩ := List.mem_map.1 hy
    exact (hdp x hxm q hq).2.valid hA (hdp x hxm q hq).1
  · by_cases hk : (nodeAt A x).kind = k
    · have e2 : parts A k u [x] = (nodeAt A x).kids := by unfold parts; simp [hk]
      rw [e2]
      exact (D.dk x _ (hx x hxm) hk (hd x hxm)).2
    · by_cases hu : x = u
      · have e2 : parts A k u [x] = [] := by unfold parts; simp [hu, K.ku]
        rw [e2]
        have : dv A c x = u := by rw [hu]; exact D.du _ (by have := hd x hxm; rw [hu] at this; exact this)
        rw [this]
        have h0 := nor_self hA K K.vu
        have e3 : norN A k u o [u] = norN A k u o [] := nor_set (fun z hz => by simp [hz]) K
        rw [e3] at h0
        exact h0
      · have e2 : parts A k u [x] = [x] := by unfold parts; simp [hk, hu]
        rw [e2]
        exact nor_self hA K ((hd x hxm).valid hA (hx x hxm))

/-- The derivative of a union is the union of the derivatives. -/
theorem nor_der {A : List Nd} {c k u o : Int} (hA : Wf A) (K : Kuo A k u o) (D : Kd A c k u o) {xs : List Int} (hx : ∀ x ∈ xs, Valid A x) (hd : ∀ x ∈ xs, Der A c x (dv A c x)) {z z' : Int} (hv : Val A (norN A k u o xs) z) (hz : Der A c z z') : Val A (norN A k u o (xs.map (dv A c))) z' := by
  rcases hv.parts K hx with ⟨h1, rfl⟩ | ⟨h1, h2⟩
  · obtain ⟨x, hxm, h | h⟩ := mem_parts.1 h1
    · exact absurd rfl ((K.nd x (hx x hxm) h.1).2.2 _ h.2).2.1
    · obtain rfl := h.2.2
      have e := D.do_ _ hz
      have e2 : dv A c z = z := (dv_eq hA hz).trans e
      rw [nor_o (mem_o K (List.mem_map.2 ⟨z, hxm, e2⟩)), e]
      exact ⟨rfl, K.vo⟩
  · have hzv := hv.valid
    rw [nor_parts hA K D hx hd]
    have e1 := nor_parts hA K D (xs := [z]) (fun x hx => by rw [List.mem_singleton.1 hx]; exact hzv) (fun x hx => by rw [List.mem_singleton.1 hx]; exact dv_der hA hz)
    have e2 : norN A k u o ((parts A k u xs).map (dv A c)) = norN A k u o ((parts A k u [z]).map (dv A c)) := nor_set (fun q _ => by
      rw [List.mem_map, List.mem_map]
      constructor
      · rintro ⟨a, ha, rfl⟩; exact ⟨a, (h2 a).2 ha, rfl⟩
      · rintro ⟨a, ha, rfl⟩; exact ⟨a, (h2 a).1 ha, rfl⟩) K
    rw [e2, ← e1]
    have e3 : [z].map (dv A c) = [z'] := by simp [dv_eq hA hz]
    rw [e3]
    exact nor_self hA K (hz.valid hA hzv)

/-- The derivative of a concatenation. -/
theorem cat_der {A : List Nd} (hA : Wf A) {c x t y e f z z' : Int} (hx : Valid A x) (hv : Val A (concatN x t) z) (hy : Der A c x y) (he : Der A c t e) (hf : Val A (concatN y t) f) (hz : Der A c z z') :
    (lang A x [] ∧ Val A (norN A 5 0 2 [f, e]) z') ∨ (¬ lang A x [] ∧ Val A (norN A 5 0 2 [f]) z') := by
  have K := kuo5 hA
  have hzv := hz.valid hA hv.valid
  have hfv := hf.valid
  unfold concatN at hv
  split at hv
  · rename_i h0
    obtain rfl : z = 0 := hv.1.symm
    obtain rfl := der0 hA hz
    have hf0 : f = 0 := by
      rcases h0 with rfl | rfl
      · rw [der0 hA hy] at hf
        unfold concatN at hf
        rw [if_pos (Or.inl rfl)] at hf
        exact hf.1.symm
      · unfold concatN at hf
        rw [if_pos (Or.inr rfl)] at hf
        exact hf.1.symm
    subst hf0
    by_cases hn : lang A x []
    · rcases h0 with rfl | rfl
      · rw [lang0 hA] at hn; exact hn.elim
      · obtain rfl := der0 hA he
        refine Or.inl ⟨hn, ?_⟩
        have := nor_self hA K hA.v0
        rwa [nor_set (ys := [0, 0]) (fun z hz => by simp) K] at this
    · exact Or.inr ⟨hn, nor_self hA K hA.v0⟩
  · rename_i h0
    split at hv
    · rename_i h1
      subst h1
      obtain rfl : t = z := hv.1
      obtain rfl := he.uniq hA hz
      have ey := der1 hA hy
      subst ey
      have hf0 : f = 0 := by
        unfold concatN at hf
        rw [if_pos (Or.inl rfl)] at hf
        exact hf.1.symm
      subst hf0
      refine Or.inl ⟨by rw [lang1 hA], ?_⟩
      have := nor_self hA K hzv
      rwa [nor_set (ys := [0, e]) (fun z hz => by simp [hz]) K] at this
    · rename_i h1
      split at hv
      · rename_i h2
        subst h2
        obtain rfl : x = z := hv.1
        obtain rfl := hy.uniq hA hz
        obtain rfl := der1 hA he
        have hfy : f = y := hf.uniq hA (concatN_one hzv)
        subst hfy
        by_cases hn : lang A x []
        · refine Or.inl ⟨hn, ?_⟩
          have := nor_self hA K hzv
          rwa [nor_set (ys := [f, 0]) (fun z hz => by simp [hz]) K] at this
        · exact Or.inr ⟨hn, nor_self hA K hzv⟩
      · have e4 := hv.2
        have k0 : kid (nodeAt A z) 0 = x := by rw [e4]; rfl
        have k1 : kid (nodeAt A z) 1 = t := by rw [e4]; rfl
        have kd : (nodeAt A z).kind = 4 := by rw [e4]
        cases hz with
        | cat1 h hd hn hw =>
          rw [k0] at hd hn
          rw [k1] at hw
          obtain rfl := hd.uniq hA hy
          obtain rfl := hw.uniq hA hf
          exact Or.inr ⟨hn, nor_self hA K hzv⟩
        | cat2 h hd hn hw he' hu =>
          rw [k0] at hd hn
          rw [k1] at hw he'
          obtain rfl := hd.uniq hA hy
          obtain rfl := hw.uniq hA hf
          obtain rfl := he'.uniq hA he
          exact Or.inl ⟨hn, hu⟩
        | none h => omega
        | dead h => omega
        | all h => omega
        | cls h => omega
        | uni h => omega
        | int h => omega
        | comp h => omega
        | star h => omega
        | loop h => omega

/-- The derivative of a complement. -/
theorem comp_der {A : List Nd} (hA : Wf A) {c x y z z' : Int} (hx : Valid A x) (hv : Val A (compN A x) z) (hy : Der A c x y) (hz : Der A c z z') : Val A (compN A y) z' := by
  have hyv := hy.valid hA hx
  have hzv := hz.valid hA hv.valid
  unfold compN at hv
  split at hv
  · rename_i h
    subst h
    obtain rfl : z = 2 := hv.1.symm
    obtain rfl := der2 hA hz
    obtain rfl := der0 hA hy
    unfold compN
    rw [if_pos rfl]
    exact ⟨rfl, hzv⟩
  · split at hv
    · rename_i h
      subst h
      obtain rfl : z = 0 := hv.1.symm
      obtain rfl := der0 hA hz
      obtain rfl := der2 hA hy
      unfold compN
      rw [if_neg (by decide), if_pos rfl]
      exact ⟨rfl, hzv⟩
    · split at hv
      · rename_i h0 h2 h7
        have ez : kid (nodeAt A x) 0 = z := hv.1
        cases hy with
        | comp h hd hw =>
          rw [ez] at hd
          obtain rfl := hz.uniq hA hd
          unfold compN at hw
          split at hw
          · rename_i e
            obtain rfl : y = 2 := hw.1.symm
            unfold compN
            rw [if_neg (by decide), if_pos rfl, e]
            exact ⟨rfl, hA.v0⟩
          · split at hw
            · rename_i e
              obtain rfl : y = 0 := hw.1.symm
              unfold compN
              rw [if_pos rfl, e]
              exact ⟨rfl, hA.v2⟩
            · split at hw
              · rename_i e0 e2 e7
                obtain rfl : kid (nodeAt A z') 0 = y := hw.1
                have hl := len1 hA hzv (Or.inl e7)
                have hnm := (hA.at hzv).nrm.cmp e7 (kid (nodeAt A z') 0) (getD_mem (by omega))
                unfold compN
                rw [if_neg hnm.1, if_neg hnm.2.1, if_neg hnm.2.2]
                refine ⟨hzv, ?_⟩
                have b1 := (hA.at hzv).bits (by omega)
                have b2 := (hA.at hzv).plain (by omega)
                obtain ⟨a, ea⟩ := List.length_eq_one_iff.1 hl
                unfold kid
                generalize nodeAt A z' = nd at *
                obtain ⟨kd, bs, ks, lo, hi⟩ := nd
                simp only at e7 b1 b2 ea ⊢
                rw [e7, b1, b2.1, b2.2, ea]
                rfl
              · rename_i e0 e2 e7
                have en := hw.2
                unfold compN
                by_cases y0 : y = 0
                · rw [y0, hA.at0] at en; simp [noneNd] at en
                · by_cases y2 : y = 2
                  · rw [y2, hA.at2] at en; simp at en
                  · rw [if_neg y0, if_neg y2, if_pos (by rw [en]), en]
                    exact ⟨rfl, hzv⟩
        | none h => omega
        | dead h => omega
        | all h => omega
        | cls h => omega
        | uni h => omega
        | int h => omega
        | cat1 h => omega
        | cat2 h => omega
        | star h => omega
        | loop h => omega
      · have en := hv.2
        have k0 : kid (nodeAt A z) 0 = x := by rw [en]; rfl
        cases hz with
        | comp h hd hw =>
          rw [k0] at hd
          obtain rfl := hd.uniq hA hy
          exact hw
        | none h => rw [en] at h; rcases h with h | h <;> cases h
        | dead h => rw [en] at h; rcases h with h | h <;> cases h
        | all h => rw [en] at h; cases h
        | cls h => rw [en] at h; cases h
        | uni h => rw [en] at h; cases h
        | int h => rw [en] at h; cases h
        | cat1 h => rw [en] at h; cases h
        | cat2 h => rw [en] at h; cases h
        | star h => rw [en] at h; cases h
        | loop h => rw [en] at h; cases h
end Go.Proofs.Qxb6500848aGreatDoor.Pl
