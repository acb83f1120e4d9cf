/-
  Live entries of a sound state: apart, or one above the other.
-/
import Derived.Test.Qxb6500847aGreatDoorMdH
import Derived.Test.Qxb6500847aGreatDoorOxQa
namespace Go.Proofs.Qxb6500847aGreatDoor.Os
open Go.RowKit FloorA
set_option maxRecDepth 100000
/-- Apart in the address space. -/
def Apt (M : Nat → En) (i j : Nat) : Prop := (M i).bas + (M i).siz ≤ (M j).bas ∨ (M j).bas + (M j).siz ≤ (M i).bas
def Ins (M : Nat → En) (i j : Nat) : Prop := (M j).bas ≤ (M i).bas ∧ (M i).bas + (M i).siz ≤ (M j).bas + (M j).siz
theorem Apt.symm {M : Nat → En} {i j : Nat} (h : Apt M i j) : Apt M j i := h.elim Or.inr Or.inl
theorem Apt.ins {M : Nat → En} {i j k : Nat} (h : Apt M i j) (hk : Ins M k i) : Apt M k j := by
  unfold Apt Ins at *
  omega
/-- The tree and where its entries lie. -/
structure Geo2 (M : Nat → En) : Prop where
  up : ∀ i, i < 320 → (M i).typ ≠ 0 → ∃ l, Up M (M i).par l
  lv : ∀ i p : Nat, i < 320 → (M i).typ ≠ 0 → p < 320 → (M i).par = (p : Int) → (M p).typ ≠ 0 ∧ (M p).typ = 1
  ins : ∀ i p : Nat, i < 320 → (M i).typ ≠ 0 → p < 320 → (M i).par = (p : Int) → Ins M i p
  sib : ∀ i j : Nat, i < 320 → j < 320 → (M i).typ ≠ 0 → (M j).typ ≠ 0 → i ≠ j → (M i).par = (M j).par → Apt M i j
section
variable {M : Nat → En}
theorem Ins.refl (M : Nat → En) (i : Nat) : Ins M i i := ⟨Int.le_refl _, Int.le_refl _⟩
theorem Ins.trans {i j k : Nat} (h : Ins M i j) (h2 : Ins M j k) : Ins M i k := by unfold Ins at *; omega
/-- Up the chain of j to p: the entry just below p, in which j lies. -/
theorem Geo2.chain (h : Geo2 M) : ∀ (l : List Nat) (j p : Nat), j < 320 → (M j).typ ≠ 0 → Up M (M j).par l → p ∈ l → ∃ c, c < 320 ∧ (M c).typ ≠ 0 ∧ (M c).par = (p : Int) ∧ Ins M j c ∧ (c = j ∨ c ∈ l)
  | [], _, _, _, _, _, hp => by simp at hp
  | q :: r, j, p, hj, ht, hu, hp => by
    obtain ⟨e, q3, hr⟩ := hu
    by_cases z : p = q
    · subst z
      exact ⟨j, hj, ht, e, Ins.refl M j, Or.inl rfl⟩
    · have hp' : p ∈ r := (List.mem_cons.1 hp).resolve_left z
      obtain ⟨tq, _⟩ := h.lv j q hj ht q3 e
      obtain ⟨c, c3, ct, cp, ci, cm⟩ := h.chain r q p q3 tq hr hp'
      exact ⟨c, c3, ct, cp, (h.ins j q hj ht q3 e).trans ci, Or.inr (cm.elim (fun z => by rw [z]; exact List.mem_cons_self ..) (fun z => List.mem_cons_of_mem _ z))⟩
/-- The root above. -/
theorem Geo2.root (h : Geo2 M) : ∀ (l : List Nat) (j : Nat), j < 320 → (M j).typ ≠ 0 → Up M (M j).par l → ∃ r, r < 320 ∧ (M r).typ ≠ 0 ∧ (M r).par = 65535 ∧ Ins M j r ∧ (r = j ∨ r ∈ l)
  | [], j, hj, ht, hu => ⟨j, hj, ht, hu, Ins.refl M j, Or.inl rfl⟩
  | q :: r, j, hj, ht, hu => by
    obtain ⟨e, q3, hr⟩ := hu
    obtain ⟨tq, _⟩ := h.lv j q hj ht q3 e
    obtain ⟨c, c3, ct, cp, ci, cm⟩ := h.root r q q3 tq hr
    exact ⟨c, c3, ct, cp, (h.ins j q hj ht q3 e).trans ci, Or.inr (cm.elim (fun z => by rw [z]; exact List.mem_cons_self ..) (fun z => List.mem_cons_of_mem _ z))⟩
theorem Geo2.main (h : Geo2 M) : ∀ (li : List Nat) (i j : Nat) (lj : List Nat), i < 320 → j < 320 → (M i).typ ≠ 0 → (M j).typ ≠ 0 → Up M (M i).par li → Up M (M j).par lj → Apt M i j ∨ (j = i ∨ j ∈ li) ∨ (i = j ∨ i ∈ lj)
  | [], i, j, lj, hi, hj, ti, tj, ui, uj => by
    obtain ⟨r, r3, rt, rp, ri, rm⟩ := h.root lj j hj tj uj
    by_cases z : r = i
    · subst z
      exact Or.inr (Or.inr rm)
    · have := h.sib r i r3 hi rt ti z (rp.trans (show (M i).par = 65535 from ui).symm)
      exact Or.inl (this.ins ri).symm
  | p :: li, i, j, lj, hi, hj, ti, tj, ui, uj => by
    obtain ⟨e, p3, ur⟩ := ui
    obtain ⟨tp, _⟩ := h.lv i p hi ti p3 e
    rcases h.main li p j lj p3 hj tp tj ur uj with q | q | q
    · exact Or.inl (q.ins (h.ins i p hi ti p3 e))
    · refine Or.inr (Or.inl (Or.inr ?_))
      rcases q with q | q
      · rw [q]; exact List.mem_cons_self ..
      · exact List.mem_cons_of_mem _ q
    · rcases q with q | q
      · exact Or.inr (Or.inl (Or.inr (by rw [q]; exact List.mem_cons_self ..)))
      · obtain ⟨c, c3, ct, cp, ci, cm⟩ := h.chain lj j p hj tj uj q
        by_cases z : c = i
        · subst z
          exact Or.inr (Or.inr (cm.imp id id))
        · have := h.sib c i c3 hi ct ti z (cp.trans e.symm)
          exact Or.inl (this.ins ci).symm
end
end Go.Proofs.Qxb6500847aGreatDoor.Os
