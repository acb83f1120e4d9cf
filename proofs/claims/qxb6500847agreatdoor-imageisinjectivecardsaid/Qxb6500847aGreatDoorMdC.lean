/-
  The abstract model: lists of numbers that are sorted in place (plain, and in memory).
-/
import Derived.Test.Qxb6500847aGreatDoorMdB
namespace Go.Proofs.Qxb6500847aGreatDoor.Os
open Go.RowKit FloorA
set_option maxRecDepth 100000
theorem IOwn.form {base : Nat} {w : World} {v : Value} {l : List Nat} (h : IOwn base w v l) : ∃ a c, v = .slice a l.length c := by
  rcases h.2 with ⟨e, e2⟩ | ⟨g, c, cur, e1, _⟩
  · exact ⟨none, 0, by rw [e, e2]⟩
  · exact ⟨_, c, e1⟩
theorem IOwn.at {base : Nat} {w : World} {v : Value} {l : List Nat} (h : IOwn base w v l) (hn : 0 < l.length) : ∃ g c, v = .slice (some ⟨g, 0, none⟩) l.length c ∧ base ≤ g ∧ g < w.heap.size ∧ (∀ o, w.frozen? ⟨g, o, none⟩ = false) ∧ ∀ (j x : Nat), l[j]? = some x → w.cell? ⟨g, j, none⟩ = some (.int .i64 (x : Int)) := by
  rcases h.2 with ⟨_, e⟩ | ⟨g, c, cur, e1, e2, e3, _⟩
  · omega
  · refine ⟨g, c, e1, e2, heap_lt e3, fun o => by simp [World.frozen?, e3], fun j x hx => ?_⟩
    have := World.ownsRow.cells h (g := g) (by rw [e1]; rfl) j (.int .i64 (x : Int)) (by unfold ILs; rw [List.getElem?_map, hx]; rfl)
    have ad0 : (⟨g, 0, none⟩ : Addr).add j = ⟨g, j, none⟩ := by unfold Addr.add; by_cases e : j = 0 <;> simp [e]
    rwa [ad0] at this
theorem IOwn.set {base g c a x : Nat} {w : World} {l : List Nat} (h : IOwn base w (.slice (some ⟨g, 0, none⟩) l.length c) l) : IOwn base (w.setCell ⟨g, a, none⟩ (.int .i64 (x : Int))) (.slice (some ⟨g, 0, none⟩) l.length c) (l.set a x) := by
  obtain ⟨h1, h2⟩ := h
  rcases h2 with ⟨e, _⟩ | ⟨g', c', cur, e1, e2, e3, e4, e5, e6, e7⟩
  · cases e
  · injection e1 with a1 a2 a3
    injection a1 with a1
    injection a1 with a1
    subst a1 a3
    have k := heap_setCell_same w g a cur 3 (.int .i64 (x : Int)) e3
    refine ⟨by unfold ILs; simp, Or.inr ⟨g, c, _, by rw [List.length_set], e2, k, by rw [List.length_set]; exact e4, e5, ?_, ?_⟩⟩
    · simpa using e6
    · rw [List.length_set]
      unfold ILs at e7 ⊢
      rw [List.map_set, ← e7]
      simp [List.take_set]
/-- The exchange sort: an order f on the entries, positions a and b. -/
structure Srt (f : Nat → Int) (l0 l : List Nat) (a b : Nat) : Prop where
  prm : l.Perm l0
  low : ∀ x y u v : Nat, x < a → x < y → l[x]? = some u → l[y]? = some v → f u ≤ f v
  cur : ∀ y u v : Nat, a < y → y < b → l[a]? = some u → l[y]? = some v → f u ≤ f v
theorem set_get {l : List Nat} {a b u v : Nat} (ha : l[a]? = some u) (hb : l[b]? = some v) (x : Nat) : ((l.set a v).set b u)[x]? = if x = b then some u else if x = a then some v else l[x]? := by
  have la : a < l.length := (List.getElem?_eq_some_iff.1 ha).1
  have lb : b < l.length := (List.getElem?_eq_some_iff.1 hb).1
  rw [List.getElem?_set, List.getElem?_set, List.length_set]
  by_cases h1 : b = x
  · subst h1; simp [lb]
  · have h1' : ¬ x = b := fun e => h1 e.symm
    by_cases h2 : a = x
    · subst h2; simp [h1, h1', la]
    · have h2' : ¬ x = a := fun e => h2 e.symm
      simp [h1, h1', h2, h2']
theorem Srt.swap {f : Nat → Int} {l0 l : List Nat} {a b u v : Nat} (h : Srt f l0 l a b) (hab : a < b) (ha : l[a]? = some u) (hb : l[b]? = some v) (hlt : f v < f u) : Srt f l0 ((l.set a v).set b u) a (b + 1) := by
  have key := set_get ha hb
  have la : a < l.length := (List.getElem?_eq_some_iff.1 ha).1
  have lb : b < l.length := (List.getElem?_eq_some_iff.1 hb).1
  refine ⟨?_, fun x y p q hx hxy hp hq => ?_, fun y p q hy hyb hp hq => ?_⟩
  · refine List.Perm.trans ?_ h.prm
    rw [List.perm_iff_count]
    intro c
    have e1 : l[a] = u := by rw [List.getElem?_eq_getElem la] at ha; exact Option.some.inj ha
    have e2 : l[b] = v := by rw [List.getElem?_eq_getElem lb] at hb; exact Option.some.inj hb
    have lb' : b < (l.set a v).length := by rw [List.length_set]; exact lb
    rw [List.count_set lb', List.count_set la, List.getElem_set_ne (by omega), e1, e2]
    have c1 : (if (u == c) = true then 1 else 0) ≤ List.count c l := by
      by_cases q : u = c
      · rw [if_pos (by simp [q])]
        exact List.count_pos_iff.2 (by rw [← q, ← e1]; exact List.getElem_mem la)
      · rw [if_neg (by simpa using q)]; omega
    rcases Bool.eq_false_or_eq_true (u == c) with q1 | q1 <;> rcases Bool.eq_false_or_eq_true (v == c) with q2 | q2 <;> simp only [q1, q2, if_true, if_false, Bool.false_eq_true] at c1 ⊢ <;> omega
  · rw [key] at hp hq
    rw [if_neg (by omega), if_neg (by omega)] at hp
    by_cases y1 : y = b
    · rw [if_pos y1] at hq; obtain rfl := Option.some.inj hq; exact h.low x a p _ hx (by omega) hp ha
    · rw [if_neg y1] at hq
      by_cases y2 : y = a
      · rw [if_pos y2] at hq; obtain rfl := Option.some.inj hq; exact h.low x b p _ hx (by omega) hp hb
      · rw [if_neg y2] at hq; exact h.low x y p q hx hxy hp hq
  · rw [key] at hp hq
    rw [if_neg (by omega), if_pos rfl] at hp
    obtain rfl := Option.some.inj hp
    by_cases y1 : y = b
    · rw [if_pos y1] at hq; obtain rfl := Option.some.inj hq; omega
    · rw [if_neg y1, if_neg (by omega)] at hq
      have := h.cur y u q hy (by omega) ha hq
      omega
theorem Srt.keep {f : Nat → Int} {l0 l : List Nat} {a b u v : Nat} (h : Srt f l0 l a b) (ha : l[a]? = some u) (hb : l[b]? = some v) (hlt : ¬ f v < f u) : Srt f l0 l a (b + 1) :=
  ⟨h.prm, h.low, fun y p q hy hyb hp hq => by
    by_cases y1 : y = b
    · subst y1
      rw [ha] at hp; rw [hb] at hq
      obtain rfl := Option.some.inj hp; obtain rfl := Option.some.inj hq
      omega
    · exact h.cur y p q hy (by omega) hp hq⟩
theorem Srt.next {f : Nat → Int} {l0 l : List Nat} {a : Nat} (h : Srt f l0 l a l.length) : Srt f l0 l (a + 1) (a + 2) :=
  ⟨h.prm, fun x y u v hx hxy hu hv => by
    by_cases q : x = a
    · subst q
      exact h.cur y u v hxy (List.getElem?_eq_some_iff.1 hv).1 hu hv
    · exact h.low x y u v (by omega) hxy hu hv, fun y _ _ h1 h2 => by omega⟩
theorem Srt.start (f : Nat → Int) (l : List Nat) : Srt f l l 0 1 := ⟨List.Perm.refl _, fun x _ _ _ h => by omega, fun y _ _ h1 h2 => by omega⟩
theorem Srt.done {f : Nat → Int} {l0 l : List Nat} {b : Nat} (h : Srt f l0 l l.length b) : l.Pairwise (fun x y => f x ≤ f y) := by
  rw [List.pairwise_iff_getElem]
  intro i j hi hj hij
  exact h.low i j _ _ hi hij (List.getElem?_eq_getElem hi) (List.getElem?_eq_getElem hj)
end Go.Proofs.Qxb6500847aGreatDoor.Os
