/-
  A script that is nil.
-/
import Derived.Test.Qxb6500847aGreatDoorOsOp
namespace Go.Proofs.Qxb6500847aGreatDoor.Os
open Go.RowKit Go.Maps Go.ChangeShapes Go.WideShapes FloorA
set_option maxRecDepth 100000
theorem open_nil {H : Type} {enc : TypeId × Value → H} {w : World} {sp : Nat → Bool} {held : Bool} {fuel len cap : Nat} {a0 : Option Addr} {x : DataW H × List MemPlace}
    (hf : DataW.trod enc Tryz.prog w 0 sp held fuel 22 [.slice a0 len cap] = some x) : a0 = none → len = 0 ∧ cap = 0 := by
  intro h
  rcases DataW.trod_slice Tryz.underlying22 hf with ⟨h0, _⟩ | ⟨a, l, c, elems, rest, n, _, hcs, _⟩
  · simp at h0
    exact h0.2
  · simp at hcs
    rw [h] at hcs
    exact absurd hcs.1 (by simp)
end Go.Proofs.Qxb6500847aGreatDoor.Os
