/-
  typedStore: the boxes.
-/
import Derived.Test.Qxb6500847aGreatDoorOsTe
import Derived.Test.Qxb6500847aGreatDoorOsQb
import Derived.BigQuiet
namespace Go.Proofs.Qxb6500847aGreatDoor.Os
open Go.RowKit FloorA
set_option maxRecDepth 100000
section
variable {A : Nat} {rb sb : Nat → Nat} {s : Av} {tl : Nat → List Int} {ws : Nat → Nat → Nat → Int} {w : World} {L : Nat → List Nat} {n : Nat}
/-- What typedStore answers. -/
def TsPost (A : Nat) (rb sb : Nat → Nat) (s : Av) (i : Nat) (g : Int) (w : World) (e : Ending) (w' : World) : Prop :=
  (e = .returned (.tuple #[.bool false, .nilIface]) ∧ Below w.heap.size w w') ∨ ∃ v, e = .returned (.tuple #[.bool true, v]) ∧ MrPost A rb sb s i g w (.returned v) w'
/-- The three boxes. -/
def bxW (A i : Nat) (g : Int) (v : Nat) (w : World) : World := ((w.alloc (.cells #[.pointer (some ⟨A, 0, none⟩)] 24)).alloc (.cells #[.int .u16 (i : Int), .int .u32 g] 32)).alloc (.cells #[.int .u64 (v : Int)] 34)
theorem bx_below (A i : Nat) (g : Int) (v : Nat) (w : World) : Below w.heap.size w (bxW A i g v w) := Below.thr (two_below (w := w) _ _) (alloc_below _)
theorem bx_v (A i : Nat) (g : Int) (v : Nat) (w : World) : (bxW A i g v w).cell? ⟨w.heap.size + 1 + 1, 0, none⟩ = some (.int .u64 (v : Int)) := cell_of_one (new_at _ _ (by simp))
theorem bx_bx (A i : Nat) (g : Int) (v : Nat) (w : World) : Bx w.heap.size (w.heap.size + 1) A i g (bxW A i g v w) := by
  have h0 : (bxW A i g v w).heap[w.heap.size]? = some (.cells #[.pointer (some ⟨A, 0, none⟩)] 24 (0, 0)) := (heap_alloc_old _ _ (by simp <;> omega)).trans ((heap_alloc_old _ _ (by simp)).trans (heap_new _ _))
  have h1 : (bxW A i g v w).heap[w.heap.size + 1]? = some (.cells #[.int .u16 (i : Int), .int .u32 g] 32 (0, 0)) := (heap_alloc_old _ _ (by simp)).trans (new_at _ _ (Deep.nblk_alloc _ _))
  exact ⟨cell_of_one h0, (ref_agg h1).1, (ref_agg h1).2⟩
end
end Go.Proofs.Qxb6500847aGreatDoor.Os
