/-
  A whole struct stored, not last, in a region that draws its order.
-/
import Derived.Test.Qxb6500847aGreatDoorOsRe
namespace Go.Proofs.Qxb6500847aGreatDoor.Os
open Go.RowKit FloorA
set_option maxRecDepth 100000
section
variable {P : Program} {ops : Array Oper} {md : Region.Mode} {Q : Exit → Act → World → Prop} {fuel : Nat} {listed : Array Bool} {a : Act} {w : World}
/-- A whole struct is stored, where nothing else may come up. -/
theorem anyH_storeK {S : World → Prop} {i : Nat} {ty : TypeId} {x y : Operand} {b o : Nat} {cs : List Value} (hw : (ops[i]?.map fun o => (o.dst, Region.wanted o (yielded ops a.tmps), o.op)) = some (none, true, .store ty x y)) (hx : a.eval x = .pointer (some ⟨b, o, none⟩)) (hy : a.eval y = .agg cs.toArray) (hr : Region.ready md ops listed = [i])
    (ht : w.there b o cs.length) (hi : (P.info? ty).map (·.size) = some cs.length) (h1 : ∀ v ∈ cs, v.oneCell' = true) (hS : S (w.setCells b o cs)) (hq : wpAnyH P md ops Q S fuel (listed.setIfInBounds i true) a (w.setCells b o cs)) : wpAnyH P md ops Q S (fuel + 1) listed a w := by
  obtain ⟨oo, ho, e⟩ := Option.map_eq_some_iff.1 hw
  simp only [Prod.mk.injEq] at e
  obtain ⟨e1, e2, e3⟩ := e
  refine wpAnyH_all hr (by simp) (fun j hj => ?_)
  rw [List.mem_singleton.1 hj]
  refine wpOp_step ho (fun K hK => ?_)
  rw [if_pos e2]
  refine wp_store_mid ty x y e3 b o cs.toArray hx hy (by simpa using ht) (by simpa using hi) (all_oneCell_toArray h1) ?_
  have ea : a.put oo.dst undef = a := by rw [e1]; rfl
  rw [ea]
  exact hK _ _ ⟨by simpa using hS, by simpa using hq⟩
end
end Go.Proofs.Qxb6500847aGreatDoor.Os
