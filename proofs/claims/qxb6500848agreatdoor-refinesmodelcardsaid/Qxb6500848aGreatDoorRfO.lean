/-
  A drawn region: two calls, two new blocks, two stores.
-/
import Derived.Test.Qxb6500848aGreatDoorPlain
import Derived.Deep.RegionHeld3
namespace Go.Proofs.Qxb6500848aGreatDoor
open Go.RowKit

/-- The operations 0, 1, 3, 4 are done. -/
def L7 (c1 c2 a7 a8 s7 s8 : Bool) : Array Bool := #[true, true, c1, true, true, c2, a7, a8, s7, s8]
def rdy7 (c1 c2 a7 a8 : Bool) : List Nat := (if c1 then (if c2 then [] else [5]) else [2]) ++ (if a7 then [] else [6]) ++ (if a8 then [] else [7]) ++ (if c2 && a7 && a8 then [8] else [])
def cnt7 (c1 c2 a7 a8 : Bool) : Nat := (!c1).toNat + (!c2).toNat + (!a7).toNat + (!a8).toNat

theorem draw7 {P : Program} {ops : Array Oper} {Q : Exit → Act → World → Prop} {S : World → Prop} (A : Value → Value → Value → Value → Act)
    (J : Bool → Bool → Bool → Bool → Value → Value → Value → Value → World → Prop) (J8 J9 : Value → Value → Value → Value → World → Prop)
    (hS : ∀ {c1 c2 a7 a8 t7 t8 u v w}, J c1 c2 a7 a8 t7 t8 u v w → S w) (hS8 : ∀ {t7 t8 u v w}, J8 t7 t8 u v w → S w) (hS9 : ∀ {t7 t8 u v w}, J9 t7 t8 u v w → S w)
    (hR : ∀ c1 c2 a7 a8, (c2 = true → c1 = true) → Region.ready .any ops (L7 c1 c2 a7 a8 false false) = rdy7 c1 c2 a7 a8)
    (hR8 : Region.ready .any ops (L7 true true true true true false) = [9]) (hR9 : Region.ready .any ops (L7 true true true true true true) = [])
    (h2 : ∀ a7 a8 t7 t8 u v w, J false false a7 a8 t7 t8 u v w → wpOp P ops Q 2 (fun a' w' => ∃ u', a' = A t7 t8 u' v ∧ J true false a7 a8 t7 t8 u' v w') (A t7 t8 u v) w)
    (h5 : ∀ a7 a8 t7 t8 u v w, J true false a7 a8 t7 t8 u v w → wpOp P ops Q 5 (fun a' w' => ∃ v', a' = A t7 t8 u v' ∧ J true true a7 a8 t7 t8 u v' w') (A t7 t8 u v) w)
    (h6 : ∀ c1 c2 a8 t7 t8 u v w, J c1 c2 false a8 t7 t8 u v w → wpOp P ops Q 6 (fun a' w' => ∃ t', a' = A t' t8 u v ∧ J c1 c2 true a8 t' t8 u v w') (A t7 t8 u v) w)
    (h7 : ∀ c1 c2 a7 t7 t8 u v w, J c1 c2 a7 false t7 t8 u v w → wpOp P ops Q 7 (fun a' w' => ∃ t', a' = A t7 t' u v ∧ J c1 c2 a7 true t7 t' u v w') (A t7 t8 u v) w)
    (h8 : ∀ t7 t8 u v w, J true true true true t7 t8 u v w → wpOp P ops Q 8 (fun a' w' => a' = A t7 t8 u v ∧ J8 t7 t8 u v w') (A t7 t8 u v) w)
    (h9 : ∀ t7 t8 u v w, J8 t7 t8 u v w → wpOp P ops Q 9 (fun a' w' => a' = A t7 t8 u v ∧ J9 t7 t8 u v w') (A t7 t8 u v) w)
    (hQ : ∀ t7 t8 u v w, J9 t7 t8 u v w → Q .normal (A t7 t8 u v) w) :
    ∀ t7 t8 u v w, J false false false false t7 t8 u v w → wpAnyH P .any ops Q S 6 (L7 false false false false false false) (A t7 t8 u v) w := by
  have s8 : ∀ t7 t8 u v w, J8 t7 t8 u v w → wpAnyH P .any ops Q S 1 (L7 true true true true true false) (A t7 t8 u v) w := fun t7 t8 u v w j =>
    wpAnyH_all hR8 (by simp) (fun i hi => by
      rw [List.mem_singleton.1 hi]
      refine wpOp_mono (fun a' w' q => ?_) (h9 t7 t8 u v w j)
      obtain ⟨rfl, j'⟩ := q
      exact ⟨hS9 j', wpAnyH_done hR9 (hQ _ _ _ _ _ j') _⟩)
  have main : ∀ n c1 c2 a7 a8, (c2 = true → c1 = true) → n = cnt7 c1 c2 a7 a8 → ∀ t7 t8 u v w, J c1 c2 a7 a8 t7 t8 u v w → wpAnyH P .any ops Q S (n + 2) (L7 c1 c2 a7 a8 false false) (A t7 t8 u v) w := by
    intro n
    induction n with
    | zero =>
      intro c1 c2 a7 a8 hc hn t7 t8 u v w j
      have e : c1 = true ∧ c2 = true ∧ a7 = true ∧ a8 = true := by
        cases c1 <;> cases c2 <;> cases a7 <;> cases a8 <;> simp [cnt7] at hn ⊢
      obtain ⟨rfl, rfl, rfl, rfl⟩ := e
      refine wpAnyH_all (rs := [8]) (hR true true true true hc) (by simp) (fun i hi => ?_)
      rw [List.mem_singleton.1 hi]
      refine wpOp_mono (fun a' w' q => ?_) (h8 t7 t8 u v w j)
      obtain ⟨rfl, j'⟩ := q
      exact ⟨hS8 j', s8 _ _ _ _ _ j'⟩
    | succ n ih =>
      intro c1 c2 a7 a8 hc hn t7 t8 u v w j
      refine wpAnyH_all (hR c1 c2 a7 a8 hc) (by cases c1 <;> cases c2 <;> cases a7 <;> cases a8 <;> simp [rdy7, cnt7] at hn ⊢) (fun i hi => ?_)
      unfold rdy7 at hi
      simp only [List.mem_append] at hi
      rcases hi with ((hi | hi) | hi) | hi
      · cases c1
        · have e : i = 2 := by simpa using hi
          subst e
          have e2 : c2 = false := by
            cases c2
            · rfl
            · exact absurd (hc rfl) (by simp)
          subst e2
          refine wpOp_mono (fun a' w' q => ?_) (h2 a7 a8 t7 t8 u v w j)
          obtain ⟨u', rfl, j'⟩ := q
          exact ⟨hS j', ih true false a7 a8 (by simp) (by simp [cnt7] at hn ⊢; omega) _ _ _ _ _ j'⟩
        · cases c2
          · have e : i = 5 := by simpa using hi
            subst e
            refine wpOp_mono (fun a' w' q => ?_) (h5 a7 a8 t7 t8 u v w j)
            obtain ⟨v', rfl, j'⟩ := q
            exact ⟨hS j', ih true true a7 a8 (by simp) (by simp [cnt7] at hn ⊢; omega) _ _ _ _ _ j'⟩
          · simp at hi
      · cases a7
        · have e : i = 6 := by simpa using hi
          subst e
          refine wpOp_mono (fun a' w' q => ?_) (h6 c1 c2 a8 t7 t8 u v w j)
          obtain ⟨t', rfl, j'⟩ := q
          exact ⟨hS j', ih c1 c2 true a8 hc (by simp [cnt7] at hn ⊢; omega) _ _ _ _ _ j'⟩
        · simp at hi
      · cases a8
        · have e : i = 7 := by simpa using hi
          subst e
          refine wpOp_mono (fun a' w' q => ?_) (h7 c1 c2 a7 t7 t8 u v w j)
          obtain ⟨t', rfl, j'⟩ := q
          exact ⟨hS j', ih c1 c2 a7 true hc (by simp [cnt7] at hn ⊢; omega) _ _ _ _ _ j'⟩
        · simp at hi
      · exfalso
        cases c1 <;> cases c2 <;> cases a7 <;> cases a8 <;> simp [cnt7] at hn hi hc
  exact fun t7 t8 u v w j => main 4 false false false false (by simp) rfl t7 t8 u v w j
end Go.Proofs.Qxb6500848aGreatDoor
