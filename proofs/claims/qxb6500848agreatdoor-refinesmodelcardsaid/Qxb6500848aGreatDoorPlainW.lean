/-
  The plain side: what the constructors make in one arena and in another.
-/
import Derived.Test.Qxb6500848aGreatDoorPlainV
namespace Go.Proofs.Qxb6500848aGreatDoor.Pl

/-- What is asked for is the same. -/
def NfS (A B : List Nd) : Nf → Nf → Prop
  | .id x, .id y => Sim A B x y
  | .nd n, .nd m => NdS A B n m ∧ Ris m
  | _, _ => False

section
variable {A B : List Nd} {x y x' y' z z' : Int}

theorem NfS.made (_hA : Wf A) (_hB : Wf B) {n m : Nf} (h : NfS A B n m) (k : Val A n z) (k' : Val B m z') : Sim A B z z' := by
  cases n with
  | id a =>
    cases m with
    | id b => obtain ⟨rfl, _⟩ := k; obtain ⟨rfl, _⟩ := k'; exact h
    | nd m => exact h.elim
  | nd n =>
    cases m with
    | id b => exact h.elim
    | nd m =>
      obtain ⟨v, rfl⟩ := k
      obtain ⟨v', rfl⟩ := k'
      exact h.1.sim v v'
theorem NfS.found (_hA : Wf A) (hB : Wf B) {n m : Nf} (h : NfS A B n m) (k : Val A n z) (hs : Sim A B z y) : Val B m y := by
  cases n with
  | id a =>
    cases m with
    | id b => obtain ⟨rfl, _⟩ := k; exact ⟨Sim.func hB h hs, hs.vy⟩
    | nd m => exact h.elim
  | nd n =>
    cases m with
    | id b => exact h.elim
    | nd m =>
      obtain ⟨v, rfl⟩ := k
      exact ⟨hs.vy, nds_func hs.nd h.1 (fun a _ b b' h1 h2 => h1.func hB h2) (hB.ris hs.vy) h.2⟩

theorem sim0 (hA : Wf A) (hB : Wf B) : Sim A B 0 0 := NdS.sim hA.v0 hB.v0 (by rw [hA.at0, hB.at0]; exact ⟨rfl, rfl, rfl, rfl, id, id, by simp [noneNd], by simp [noneNd], by simp [noneNd], by simp [noneNd], by simp [noneNd]⟩)
theorem sim1 (hA : Wf A) (hB : Wf B) : Sim A B 1 1 := NdS.sim hA.v1 hB.v1 (by rw [hA.at1, hB.at1]; exact ⟨rfl, rfl, rfl, rfl, id, id, by simp, by simp, by simp, by simp, by simp⟩)
theorem sim2 (hA : Wf A) (hB : Wf B) : Sim A B 2 2 := NdS.sim hA.v2 hB.v2 (by rw [hA.at2, hB.at2]; exact ⟨rfl, rfl, rfl, rfl, id, id, by simp, by simp, by simp, by simp, by simp⟩)
theorem Sim.is (hA : Wf A) (hB : Wf B) {i : Int} (hi : Sim A B i i) (h : Sim A B x y) : x = i ↔ y = i := by
  constructor
  · rintro rfl; exact h.func hB hi
  · rintro rfl; exact h.inj hA hi
theorem Sim.is0 (hA : Wf A) (hB : Wf B) (h : Sim A B x y) : x = 0 ↔ y = 0 := Sim.is hA hB (sim0 hA hB) h
theorem Sim.is1 (hA : Wf A) (hB : Wf B) (h : Sim A B x y) : x = 1 ↔ y = 1 := Sim.is hA hB (sim1 hA hB) h
theorem Sim.is2 (hA : Wf A) (hB : Wf B) (h : Sim A B x y) : x = 2 ↔ y = 2 := Sim.is hA hB (sim2 hA hB) h

theorem ite_both {c d : Prop} [Decidable c] [Decidable d] (h : c ↔ d) {n n' m m' : Nf} (h1 : c → NfS A B n m) (h2 : ¬ c → NfS A B n' m') : NfS A B (if c then n else n') (if d then m else m') := by
  by_cases e : c
  · rw [if_pos e, if_pos (h.1 e)]; exact h1 e
  · rw [if_neg e, if_neg (fun q => e (h.2 q))]; exact h2 e

/-- A node with kids in order. -/
theorem nds_one (k lo hi : Int) (hk : k ≠ 5 ∧ k ≠ 6) (h : Sim A B x y) : NdS A B ⟨k, [], [x], lo, hi⟩ ⟨k, [], [y], lo, hi⟩ ∧ Ris ⟨k, [], [y], lo, hi⟩ :=
  ⟨⟨rfl, rfl, rfl, rfl, fun _ => y, fun _ => x, by simp, by simpa using h, by simp, by simpa using h, by simp⟩, fun e => e.elim (fun e => absurd e hk.1) (fun e => absurd e hk.2)⟩

theorem concatS (hA : Wf A) (hB : Wf B) (h : Sim A B x y) (k : Sim A B x' y') : NfS A B (concatN x x') (concatN y y') := by
  unfold concatN
  refine ite_both (or_congr (h.is0 hA hB) (k.is0 hA hB)) (fun _ => sim0 hA hB) (fun _ => ite_both (h.is1 hA hB) (fun _ => k) (fun _ => ite_both (k.is1 hA hB) (fun _ => h) (fun _ => ?_)))
  refine ⟨⟨rfl, rfl, rfl, rfl, fun a => if a = x then y else y', fun b => if b = y then x else x', ?_, ?_, ?_, ?_, ?_⟩, fun e => by rcases e with e | e <;> cases e⟩
  · intro a ha
    simp only []
    split <;> simp
  · intro a ha
    simp only []
    split
    · rename_i e; rw [e]; exact h
    · rename_i e
      have : a = x' := by simpa [e] using ha
      rw [this]; exact k
  · intro b hb
    simp only []
    split <;> simp
  · intro b hb
    simp only []
    split
    · rename_i e; rw [e]; exact h
    · rename_i e
      have : b = y' := by simpa [e] using hb
      rw [this]; exact k
  · intro _ _
    by_cases e : x' = x
    · have : y' = y := by subst e; exact k.func hB h
      simp [e, this]
    · simp [e]

theorem Sim.kid0 (h : Sim A B x y) (hx : ∃ a, (nodeAt A x).kids = [a]) (hk : (nodeAt A x).kind ≠ 5 ∧ (nodeAt A x).kind ≠ 6) : Sim A B (kid (nodeAt A x) 0) (kid (nodeAt B y) 0) := by
  obtain ⟨a, e⟩ := hx
  obtain ⟨f, g, p1, p2, _, _, p5⟩ := h.nd.ex
  have e2 := p5 hk.1 hk.2
  have := p2 a (by simp [e])
  simpa [kid, e, e2] using this

theorem compS (hA : Wf A) (hB : Wf B) (h : Sim A B x y) : NfS A B (compN A x) (compN B y) := by
  unfold compN
  rw [h.nd.hk]
  exact ite_both (h.is0 hA hB) (fun _ => sim2 hA hB) (fun _ => ite_both (h.is2 hA hB) (fun _ => sim0 hA hB) (fun _ => ite_both Iff.rfl (fun e => h.kid0 ((hA.at h.vx).one (Or.inl e)) (by omega)) (fun _ => nds_one 7 0 0 (by decide) h)))

theorem starS (hA : Wf A) (hB : Wf B) (h : Sim A B x y) : NfS A B (starN A x) (starN B y) := by
  unfold starN
  rw [h.nd.hk, h.nd.hb]
  exact ite_both (or_congr (h.is0 hA hB) (h.is1 hA hB)) (fun _ => sim1 hA hB) (fun _ => ite_both (or_congr (h.is2 hA hB) Iff.rfl) (fun _ => h) (fun _ => ite_both Iff.rfl (fun _ => sim2 hA hB) (fun _ => nds_one 8 0 0 (by decide) h)))

theorem loopS (hA : Wf A) (hB : Wf B) (lo hi : Int) (h : Sim A B x y) : NfS A B (loopN A x lo hi) (loopN B y lo hi) := by
  unfold loopN
  rw [h.nd.hk]
  exact ite_both Iff.rfl (fun _ => sim0 hA hB) (fun _ => ite_both (or_congr Iff.rfl (h.is1 hA hB)) (fun _ => sim1 hA hB) (fun _ => ite_both (and_congr (h.is0 hA hB) Iff.rfl) (fun _ => sim1 hA hB) (fun _ => ite_both (h.is0 hA hB) (fun _ => sim0 hA hB) (fun _ => ite_both (or_congr (h.is2 hA hB) Iff.rfl) (fun _ => h) (fun _ => ite_both Iff.rfl (fun _ => h) (fun _ => ite_both Iff.rfl (fun _ => starS hA hB h) (fun _ => nds_one 9 lo hi (by decide) h)))))))

/-- Lists of the same regexes. -/
structure LsS (A B : List Nd) (p q : List Int) : Prop where
  to : ∀ a ∈ p, ∃ b ∈ q, Sim A B a b
  fro : ∀ b ∈ q, ∃ a ∈ p, Sim A B a b

theorem flatS {k u : Int} (hA : Wf A) (hB : Wf B) (hu : Sim A B u u) {xs ys : List Int} (h : LsS A B xs ys) : LsS A B (flat A k u xs) (flat B k u ys) := by
  refine ⟨fun a ha => ?_, fun b hb => ?_⟩
  · obtain ⟨x, hx, ha⟩ := List.mem_flatMap.1 (mem_flat.1 ha)
    obtain ⟨y, hy, hs⟩ := h.to x hx
    have hm : ∀ b, (b ∈ (if (nodeAt B y).kind = k then (nodeAt B y).kids else if y ≠ u then [y] else [])) → b ∈ flat B k u ys := fun b hb => mem_flat.2 (List.mem_flatMap.2 ⟨y, hy, hb⟩)
    split at ha
    · rename_i e
      obtain ⟨f, g, p1, p2, _⟩ := hs.nd.ex
      exact ⟨f a, hm _ (by rw [if_pos (by rw [hs.nd.hk]; exact e)]; exact p1 a ha), p2 a ha⟩
    · rename_i e
      split at ha
      · rename_i e2
        have : a = x := by simpa using ha
        subst this
        exact ⟨y, hm _ (by rw [if_neg (by rw [hs.nd.hk]; exact e), if_pos (fun q => e2 ((Sim.is hA hB hu hs).2 q))]; simp), hs⟩
      · cases ha
  · obtain ⟨y, hy, hb⟩ := List.mem_flatMap.1 (mem_flat.1 hb)
    obtain ⟨x, hx, hs⟩ := h.fro y hy
    have hm : ∀ a, (a ∈ (if (nodeAt A x).kind = k then (nodeAt A x).kids else if x ≠ u then [x] else [])) → a ∈ flat A k u xs := fun a ha => mem_flat.2 (List.mem_flatMap.2 ⟨x, hx, ha⟩)
    split at hb
    · rename_i e
      obtain ⟨f, g, _, _, p3, p4, _⟩ := hs.nd.ex
      exact ⟨g b, hm _ (by rw [if_pos (by rw [← hs.nd.hk]; exact e)]; exact p3 b hb), p4 b hb⟩
    · rename_i e
      split at hb
      · rename_i e2
        have : b = y := by simpa using hb
        subst this
        exact ⟨x, hm _ (by rw [if_neg (by rw [← hs.nd.hk]; exact e), if_pos (fun q => e2 ((Sim.is hA hB hu hs).1 q))]; simp), hs⟩
      · cases hb

theorem LsS.fns {p q : List Int} (h : LsS A B p q) : ∃ f g : Int → Int, (∀ a ∈ p, f a ∈ q) ∧ (∀ a ∈ p, Sim A B a (f a)) ∧ (∀ b ∈ q, g b ∈ p) ∧ (∀ b ∈ q, Sim A B (g b) b) := by
  have hf : ∀ a, ∃ b, a ∈ p → b ∈ q ∧ Sim A B a b := fun a => by
    by_cases e : a ∈ p
    · obtain ⟨b, h1, h2⟩ := h.to a e
      exact ⟨b, fun _ => ⟨h1, h2⟩⟩
    · exact ⟨0, fun q => absurd q e⟩
  have hg : ∀ b, ∃ a, b ∈ q → a ∈ p ∧ Sim A B a b := fun b => by
    by_cases e : b ∈ q
    · obtain ⟨a, h1, h2⟩ := h.fro b e
      exact ⟨a, fun _ => ⟨h1, h2⟩⟩
    · exact ⟨0, fun q => absurd q e⟩
  exact ⟨fun a => Classical.choose (hf a), fun b => Classical.choose (hg b), fun a ha => (Classical.choose_spec (hf a) ha).1, fun a ha => (Classical.choose_spec (hf a) ha).2, fun b hb => (Classical.choose_spec (hg b) hb).1, fun b hb => (Classical.choose_spec (hg b) hb).2⟩
theorem LsS.len (hA : Wf A) (hB : Wf B) {p q : List Int} (h : LsS A B p q) (hp : p.Nodup) (hq : q.Nodup) : q.length = p.length := by
  obtain ⟨f, g, p1, p2, p3, p4⟩ := h.fns
  have := sum_bij (s := fun _ => 1) (t := fun _ => 1) (F := f) (G := g) hp hq (fun a ha => ⟨p1 a ha, (p4 _ (p1 a ha)).inj hA (p2 a ha), rfl⟩) (fun b hb => ⟨p3 b hb, (p2 _ (p3 b hb)).func hB (p4 b hb)⟩)
  simpa [List.map_const'] using this
theorem LsS.has (hA : Wf A) (hB : Wf B) {i : Int} (hi : Sim A B i i) {p q : List Int} (h : LsS A B p q) : q.contains i = p.contains i := by
  rw [Bool.eq_iff_iff]
  simp only [List.contains_iff_mem]
  constructor
  · intro e
    obtain ⟨a, h1, h2⟩ := h.fro i e
    rw [h2.inj hA hi] at h1; exact h1
  · intro e
    obtain ⟨b, h1, h2⟩ := h.to i e
    rw [← h2.func hB hi]; exact h1
theorem ristS {k : Int} {p q : List Int} (hk : k = 5 ∨ k = 6) (h : LsS A B p q) (hq : q.Pairwise (· < ·)) : NdS A B ⟨k, [], p, 0, 0⟩ ⟨k, [], q, 0, 0⟩ ∧ Ris ⟨k, [], q, 0, 0⟩ := by
  obtain ⟨f, g, p1, p2, p3, p4⟩ := h.fns
  exact ⟨⟨rfl, rfl, rfl, rfl, f, g, p1, p2, p3, p4, fun h5 h6 => by rcases hk with e | e; exact absurd e h5; exact absurd e h6⟩, fun _ => hq⟩
theorem unionS (hA : Wf A) (hB : Wf B) {xs ys : List Int} (h : LsS A B xs ys) : NfS A B (unionN A xs) (unionN B ys) := by
  have hf := flatS (k := 5) hA hB (sim0 hA hB) h
  have hp := flat_rising (A := A) (kind := 5) (unit := 0) (xs := xs)
  have hq := flat_rising (A := B) (kind := 5) (unit := 0) (xs := ys)
  have hl := hf.len hA hB (rising_nodup hp) (rising_nodup hq)
  have hc := hf.has hA hB (sim2 hA hB)
  unfold unionN
  generalize flat A 5 0 xs = p at *
  generalize flat B 5 0 ys = q at *
  simp only [hc, hl]
  split
  · exact sim2 hA hB
  · split
    · exact sim0 hA hB
    · split
      · rename_i e
        obtain ⟨a, rfl⟩ := List.length_eq_one_iff.1 e
        obtain ⟨b, h1, h2⟩ := hf.to a (by simp)
        obtain ⟨b', rfl⟩ := List.length_eq_one_iff.1 (hl.trans e)
        have : b = b' := by simpa using h1
        subst this
        exact h2
      · exact ristS (Or.inl rfl) hf hq
theorem interS (hA : Wf A) (hB : Wf B) {xs ys : List Int} (h : LsS A B xs ys) : NfS A B (interN A xs) (interN B ys) := by
  have hf := flatS (k := 6) hA hB (sim2 hA hB) h
  have hp := flat_rising (A := A) (kind := 6) (unit := 2) (xs := xs)
  have hq := flat_rising (A := B) (kind := 6) (unit := 2) (xs := ys)
  have hl := hf.len hA hB (rising_nodup hp) (rising_nodup hq)
  have hc := hf.has hA hB (sim0 hA hB)
  unfold interN
  generalize flat A 6 2 xs = p at *
  generalize flat B 6 2 ys = q at *
  simp only [hc, hl]
  split
  · exact sim0 hA hB
  · split
    · exact sim2 hA hB
    · split
      · rename_i e
        obtain ⟨a, rfl⟩ := List.length_eq_one_iff.1 e
        obtain ⟨b, h1, h2⟩ := hf.to a (by simp)
        obtain ⟨b', rfl⟩ := List.length_eq_one_iff.1 (hl.trans e)
        have : b = b' := by simpa using h1
        subst this
        exact h2
      · exact ristS (Or.inr rfl) hf hq
theorem pairS (h : Sim A B x y) (k : Sim A B x' y') : LsS A B [x, x'] [y, y'] := by
  refine ⟨fun a ha => ?_, fun b hb => ?_⟩
  · rcases List.mem_cons.1 ha with rfl | ha
    · exact ⟨y, by simp, h⟩
    · rw [List.mem_singleton.1 ha]; exact ⟨y', by simp, k⟩
  · rcases List.mem_cons.1 hb with rfl | hb
    · exact ⟨x, by simp, h⟩
    · rw [List.mem_singleton.1 hb]; exact ⟨x', by simp, k⟩

/-- A class. -/
def classN (l : List Nat) : Nf := if cnt l = 0 then .id 0 else .nd ⟨3, l, [], 0, 0⟩
theorem classS (hA : Wf A) (hB : Wf B) (l : List Nat) : NfS A B (classN l) (classN l) := by
  unfold classN
  split
  · exact sim0 hA hB
  · exact ⟨⟨rfl, rfl, rfl, rfl, id, id, by simp, by simp, by simp, by simp, by simp⟩, fun e => by rcases e with e | e <;> cases e⟩

/-! ### all of B lies in A -/
def Im (A B : List Nd) : Prop := ∀ y, Valid B y → ∃ x, Sim A B x y

theorem Im.le {A' : List Nd} (hA : Le A A') (h : Im A B) : Im A' B := fun y hy => by
  obtain ⟨x, hx⟩ := h y hy
  exact ⟨x, hx.le hA (Le.refl _)⟩
/-- B is not longer; if it is as long, all of A lies in B. -/
theorem Im.all (hB : Wf B) (h : Im A B) (hl : A.length ≤ B.length) (hx : Valid A x) : ∃ y, Sim A B x y := by
  have hf : ∀ j : Nat, ∃ a : Int, j < B.length → Sim A B a (j : Int) := fun j => by
    by_cases e : j < B.length
    · obtain ⟨a, ha⟩ := h (j : Int) ⟨by omega, by simpa using e⟩
      exact ⟨a, fun _ => ha⟩
    · exact ⟨0, fun q => absurd q e⟩
  let F : Nat → Int := fun j => Classical.choose (hf j)
  have hF : ∀ j, j < B.length → Sim A B (F j) (j : Int) := fun j hj => Classical.choose_spec (hf j) hj
  have hn : ((List.range B.length).map F).Nodup := by
    unfold List.Nodup
    rw [List.pairwise_map]
    refine (List.nodup_range (n := B.length)).imp_of_mem (fun {i j} hi hj hne e => hne ?_)
    have h1 := hF i (List.mem_range.1 hi)
    have h2 := hF j (List.mem_range.1 hj)
    rw [e] at h1
    have := h1.func hB h2
    omega
  by_cases hm : x ∈ (List.range B.length).map F
  · obtain ⟨j, hj, rfl⟩ := List.mem_map.1 hm
    exact ⟨j, hF j (List.mem_range.1 hj)⟩
  · exfalso
    have := nodup_sub (l := x :: (List.range B.length).map F) (m := (List.range A.length).map (fun i : Nat => (i : Int))) (List.nodup_cons.2 ⟨hm, hn⟩) (fun z hz => by
      have hv : Valid A z := by
        rcases List.mem_cons.1 hz with rfl | hz
        · exact hx
        · obtain ⟨j, hj, rfl⟩ := List.mem_map.1 hz
          exact (hF j (List.mem_range.1 hj)).vx
      exact List.mem_map.2 ⟨z.toNat, List.mem_range.2 hv.2, by have := hv.1; omega⟩)
    simp at this
    omega
end
end Go.Proofs.Qxb6500848aGreatDoor.Pl
