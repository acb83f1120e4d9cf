/-
  Stale references: the new ones.
-/
import Derived.Test.Qxb6500847aGreatDoorOsSq
namespace Go.Proofs.Qxb6500847aGreatDoor.Os
open Go.RowKit FloorA
set_option maxRecDepth 100000
section
variable {s s' : Av} {tl : Nat → List Int} {L : Nat → List Nat} {n : Nat}
/-- The new references with their generations as numbers. -/
theorem new_facts {rl : List (Nat × Int)} (hI : IV s' tl L n) (hf : ∀ r ∈ rl, (s.hd r.1).typ = 0 ∧ (s.hd r.1).gen = r.2 ∧ Live s' r.1 r.2) (hn : (rl.map Prod.fst).Nodup) :
    ∃ rn : List (Nat × Nat), rl = refN rn ∧ rn.length = rl.length ∧ (rn.map Prod.fst).Nodup ∧ ∀ r ∈ rn, r.2 < 4294967296 ∧ (s.hd r.1).typ = 0 ∧ (s.hd r.1).gen = (r.2 : Int) ∧ Live s' r.1 (r.2 : Int) := by
  have hg : ∀ r ∈ rl, 0 ≤ r.2 ∧ r.2 < 4294967296 := fun r hr => by
    obtain ⟨_, _, h3⟩ := hf r hr
    obtain ⟨gN, eg, g1, g2, _⟩ := hI.ge.gen r.1 h3.1
    have := h3.2.2.2
    omega
  refine ⟨rl.map (fun r => (r.1, r.2.toNat)), ?_, by simp, ?_, fun r hr => ?_⟩
  · unfold refN
    rw [List.map_map]
    have key : ∀ l : List (Nat × Int), (∀ r ∈ l, 0 ≤ r.2) → l.map ((fun r : Nat × Nat => (r.1, (r.2 : Int))) ∘ fun r : Nat × Int => (r.1, r.2.toNat)) = l := fun l => by
      induction l with
      | nil => intro _; rfl
      | cons a t ih =>
        intro h
        rw [List.map_cons, ih (fun r hr => h r (List.mem_cons_of_mem _ hr))]
        have e : ((a.2.toNat : Nat) : Int) = a.2 := Int.toNat_of_nonneg (h a List.mem_cons_self)
        show (a.1, ((a.2.toNat : Nat) : Int)) :: t = a :: t
        rw [e]
    exact (key rl (fun r hr => (hg r hr).1)).symm
  · rw [List.map_map]
    exact hn
  · obtain ⟨x, hx, rfl⟩ := List.mem_map.1 hr
    obtain ⟨h1, h2, h3⟩ := hf x hx
    have e : ((x.2.toNat : Nat) : Int) = x.2 := Int.toNat_of_nonneg (hg x hx).1
    refine ⟨?_, h1, ?_, ?_⟩
    · have := (hg x hx).2
      show x.2.toNat < _
      omega
    · show _ = ((x.2.toNat : Nat) : Int)
      rw [e]; exact h2
    · show Live s' x.1 ((x.2.toNat : Nat) : Int)
      rw [e]; exact h3
end
end Go.Proofs.Qxb6500847aGreatDoor.Os
