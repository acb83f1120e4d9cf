/-
  What the tables mean: each is the table of a language over the factors of a word.
-/
import Derived.Test.Qxb6500848aGreatDoorWalkD
namespace Go.Proofs.Qxb6500848aGreatDoor
open Pl

def fac (wd : Word) (i j : Nat) : Word := (wd.drop i).take (j - i)
def Rep (L : Lang) (wd : Word) (f : Nat → Nat → Bool) : Prop := ∀ i j, i ≤ j → j ≤ wd.length → (f i j = true ↔ L (fac wd i j))

theorem fac_length {wd : Word} {i j : Nat} (hj : j ≤ wd.length) : (fac wd i j).length = j - i := by
  unfold fac
  rw [List.length_take, List.length_drop]
  omega
theorem fac_whole (wd : Word) : fac wd 0 wd.length = wd := by simp [fac]
theorem fac_nil {wd : Word} {i j : Nat} (hij : i ≤ j) (hj : j ≤ wd.length) : fac wd i j = [] ↔ i = j := by
  rw [← List.length_eq_zero_iff, fac_length hj]
  omega
theorem fac_append {wd : Word} {i k j : Nat} (h1 : i ≤ k) (h2 : k ≤ j) : fac wd i k ++ fac wd k j = fac wd i j := by
  unfold fac
  have e : wd.drop k = (wd.drop i).drop (k - i) := by rw [List.drop_drop]; congr 1; omega
  rw [e, show j - i = (k - i) + (j - k) by omega, List.take_add]
theorem fac_split {wd : Word} {i j : Nat} (hij : i ≤ j) (hj : j ≤ wd.length) {u v : Word} (h : fac wd i j = u ++ v) : ∃ k, i ≤ k ∧ k ≤ j ∧ u = fac wd i k ∧ v = fac wd k j := by
  have hl := congrArg List.length h
  rw [fac_length hj, List.length_append] at hl
  refine ⟨i + u.length, by omega, by omega, ?_⟩
  have e := fac_append (wd := wd) (i := i) (k := i + u.length) (j := j) (by omega) (by omega)
  rw [h] at e
  have := List.append_inj e (by rw [fac_length (by omega)]; omega)
  exact ⟨this.1.symm, this.2.symm⟩
theorem fac_one {wd : Word} {i : Nat} (hi : i < wd.length) : fac wd i (i + 1) = [wd[i]] := by
  unfold fac
  rw [show i + 1 - i = 1 by omega, List.take_one, List.head?_drop, List.getElem?_eq_getElem hi]
  rfl
theorem fac_alph {wd : Word} (h : Alph wd) (i j : Nat) : Alph (fac wd i j) := fun c hc => h c (List.mem_of_mem_drop (List.mem_of_mem_take hc))

theorem Rep.congr {L M : Lang} {wd : Word} {f : Nat → Nat → Bool} (h : Rep L wd f) (hw : Alph wd) (e : ∀ u, Alph u → u.length ≤ wd.length → (L u ↔ M u)) : Rep M wd f := fun i j hij hj => by
  rw [h i j hij hj]
  exact e _ (fac_alph hw i j) (by rw [fac_length hj]; omega)
theorem Rep.same {L : Lang} {wd : Word} {f g : Nat → Nat → Bool} (h : Rep L wd f) (e : ∀ i j, i ≤ j → j ≤ wd.length → f i j = g i j) : Rep L wd g := fun i j hij hj => by
  rw [← e i j hij hj]; exact h i j hij hj

theorem rep_none (wd : Word) : Rep (fun _ => False) wd (fun _ _ => false) := fun i j _ _ => by simp
theorem rep_eps (wd : Word) : Rep (fun w => w = []) wd (fun i j => decide (i = j)) := fun i j hij hj => by
  show decide (i = j) = true ↔ fac wd i j = []
  rw [fac_nil hij hj]; simp
theorem rep_all (wd : Word) : Rep (fun _ => True) wd (fun i j => decide (i ≤ j)) := fun i j hij _ => by simp [hij]
theorem rep_cls (wd : Word) (p : Int → Bool) : Rep (fun w => ∃ c, w = [c] ∧ p c = true) wd (fun i j => decide (j = i + 1) && p (wd.getD i 0)) := fun i j hij hj => by
  constructor
  · intro h
    simp only [Bool.and_eq_true, decide_eq_true_eq] at h
    obtain ⟨rfl, h⟩ := h
    have hi : i < wd.length := by omega
    rw [getD_lt hi] at h
    exact ⟨_, fac_one hi, h⟩
  · rintro ⟨c, e, h⟩
    have hl := congrArg List.length e
    rw [fac_length hj] at hl
    simp only [List.length_singleton] at hl
    obtain rfl : j = i + 1 := by omega
    have hi : i < wd.length := by omega
    rw [fac_one hi] at e
    simp only [Bool.and_eq_true, decide_true, true_and]
    rw [getD_lt hi]
    cases e
    exact h
theorem rep_join {L M : Lang} {wd : Word} {f g : Nat → Nat → Bool} (hf : Rep L wd f) (hg : Rep M wd g) : Rep (cat L M) wd (joinF f g) := fun i j hij hj => by
  unfold joinF anyTo
  simp only [hij, decide_true, Bool.true_and, List.any_eq_true, List.mem_range, Bool.and_eq_true, decide_eq_true_eq]
  constructor
  · rintro ⟨k, hk, hik, h1, h2⟩
    exact ⟨_, _, (fac_append hik (by omega)).symm, (hf i k hik (by omega)).1 h1, (hg k j (by omega) hj).1 h2⟩
  · rintro ⟨u, v, e, h1, h2⟩
    obtain ⟨k, h3, h4, rfl, rfl⟩ := fac_split hij hj e
    exact ⟨k, by omega, h3, (hf i k h3 (by omega)).2 h1, (hg k j h4 hj).2 h2⟩
theorem rep_either {L M : Lang} {wd : Word} {f g : Nat → Nat → Bool} (hf : Rep L wd f) (hg : Rep M wd g) : Rep (fun w => L w ∨ M w) wd (eitherF f g) := fun i j hij hj => by
  unfold eitherF
  simp only [hij, decide_true, Bool.true_and, Bool.or_eq_true]
  rw [hf i j hij hj, hg i j hij hj]
theorem rep_comp {L : Lang} {wd : Word} {f : Nat → Nat → Bool} (hf : Rep L wd f) : Rep (fun w => ¬ L w) wd (fun i j => decide (i ≤ j) && !f i j) := fun i j hij hj => by
  simp only [hij, decide_true, Bool.true_and, Bool.not_eq_true']
  rw [← hf i j hij hj]
  simp
theorem rep_pow {L : Lang} {wd : Word} {f : Nat → Nat → Bool} (n : Nat) (hf : Rep L wd f) : ∀ k, Rep (pow L k) wd (powF n f k)
  | 0 => rep_eps wd
  | k + 1 => rep_join (rep_pow n hf k) hf
theorem rep_sum {L : Lang} {wd : Word} {f : Nat → Nat → Bool} (n lo : Nat) (hf : Rep L wd f) : ∀ K, Rep (fun w => ∃ k, lo ≤ k ∧ k < K ∧ pow L k w) wd (sumF n f lo K)
  | 0 => fun i j _ _ => by simp [sumF]
  | K + 1 => by
    have h := rep_sum n lo hf K
    unfold sumF
    split
    · rename_i hl
      intro i j hij hj
      rw [rep_either h (rep_pow n hf K) i j hij hj]
      constructor
      · rintro (⟨k, h1, h2, h3⟩ | h3)
        · exact ⟨k, h1, by omega, h3⟩
        · exact ⟨K, hl, by omega, h3⟩
      · rintro ⟨k, h1, h2, h3⟩
        by_cases e : k = K
        · subst e; right; exact h3
        · left; exact ⟨k, h1, by omega, h3⟩
    · rename_i hl
      intro i j hij hj
      rw [h i j hij hj]
      constructor
      · rintro ⟨k, h1, h2, h3⟩; exact ⟨k, h1, by omega, h3⟩
      · rintro ⟨k, h1, h2, h3⟩; exact ⟨k, h1, by omega, h3⟩

/-- 'powers' at an open upper bound. -/
theorem rep_powers_inf {L : Lang} {wd : Word} {f : Nat → Nat → Bool} (lo : Nat) (hf : Rep L wd f) : Rep (loopL L lo (-1)) wd (sumF wd.length f lo (lo + wd.length + 1)) := fun i j hij hj => by
  rw [rep_sum wd.length lo hf _ i j hij hj]
  have hl : (fac wd i j).length ≤ wd.length := by rw [fac_length hj]; omega
  have e := pow_bound (f := L) (lo := lo) hl
  constructor
  · rintro ⟨k, h1, h2, h3⟩; exact ⟨k, by omega, Or.inl rfl, h3⟩
  · rintro ⟨k, h1, _, h3⟩
    obtain ⟨m, h4, h5, h6⟩ := e.1 ⟨k, by omega, h3⟩
    exact ⟨m, h4, by omega, h6⟩
theorem rep_powers {L : Lang} {wd : Word} {f : Nat → Nat → Bool} (lo hi : Nat) (hf : Rep L wd f) : Rep (loopL L lo hi) wd (sumF wd.length f lo (hi + 1)) := fun i j hij hj => by
  rw [rep_sum wd.length lo hf _ i j hij hj]
  constructor
  · rintro ⟨k, h1, h2, h3⟩; exact ⟨k, by omega, Or.inr (by omega), h3⟩
  · rintro ⟨k, h1, h2, h3⟩; exact ⟨k, by omega, by omega, h3⟩

/-! ### unions and intersections over the kids' tables -/
def orF (fs : List (Nat → Nat → Bool)) : Nat → Nat → Bool := fs.foldl eitherF (fun _ _ => false)
theorem orF_snoc (fs : List (Nat → Nat → Bool)) (f : Nat → Nat → Bool) : orF (fs ++ [f]) = eitherF (orF fs) f := by simp [orF, List.foldl_append]
def andF (fs : List (Nat → Nat → Bool)) : Nat → Nat → Bool := fun i j => decide (i ≤ j) && fs.all fun f => f i j

theorem rep_or {A : List Nd} {wd : Word} : ∀ (ks : List Int) (fs : List (Nat → Nat → Bool)), fs.length = ks.length → (∀ i (h : i < ks.length) (h' : i < fs.length), Rep (lang A ks[i]) wd fs[i]) → Rep (fun w => ∃ k ∈ ks, lang A k w) wd (orF fs) := by
  suffices h : ∀ (ks : List Int) (fs : List (Nat → Nat → Bool)) (L : Lang) (f0 : Nat → Nat → Bool), Rep L wd f0 → fs.length = ks.length → (∀ i (h : i < ks.length) (h' : i < fs.length), Rep (lang A ks[i]) wd fs[i]) → Rep (fun w => L w ∨ ∃ k ∈ ks, lang A k w) wd (fs.foldl eitherF f0) by
    intro ks fs hl hr
    have := h ks fs _ _ (rep_none wd) hl hr
    intro i j hij hj
    rw [show orF fs i j = fs.foldl eitherF (fun _ _ => false) i j from rfl, this i j hij hj]
    simp
  intro ks
  induction ks with
  | nil =>
    intro fs L f0 h0 hl _
    obtain rfl := List.length_eq_zero_iff.1 hl
    intro i j hij hj
    simp only [List.foldl_nil]
    rw [h0 i j hij hj]
    simp
  | cons k ks ih =>
    intro fs L f0 h0 hl hr
    cases fs with
    | nil => simp at hl
    | cons f fs =>
      have h1 : Rep (fun w => L w ∨ lang A k w) wd (eitherF f0 f) := rep_either h0 (hr 0 (by simp) (by simp))
      have := ih fs _ _ h1 (by simpa using hl) (fun i h h' => hr (i + 1) (by simpa using h) (by simpa using h'))
      intro i j hij hj
      rw [List.foldl_cons, this i j hij hj]
      simp [or_assoc]

theorem rep_and {A : List Nd} {wd : Word} (ks : List Int) (fs : List (Nat → Nat → Bool)) (hl : fs.length = ks.length) (hr : ∀ i (h : i < ks.length) (h' : i < fs.length), Rep (lang A ks[i]) wd fs[i]) : Rep (fun w => ∀ k ∈ ks, lang A k w) wd (andF fs) := fun i j hij hj => by
  unfold andF
  simp only [hij, decide_true, Bool.true_and, List.all_eq_true]
  constructor
  · intro h k hk
    obtain ⟨m, hm, rfl⟩ := List.getElem_of_mem hk
    exact (hr m hm (by omega) i j hij hj).1 (h _ (List.getElem_mem (by omega)))
  · intro h f hf
    obtain ⟨m, hm, rfl⟩ := List.getElem_of_mem hf
    exact (hr m (by omega) hm i j hij hj).2 (h _ (List.getElem_mem (by omega)))
end Go.Proofs.Qxb6500848aGreatDoor
