/-
  Results that lie in a cell.
-/
import Derived.Test.Qxb6500847aGreatDoorOsW
namespace Go.Proofs.Qxb6500847aGreatDoor.Os
open Go.RowKit FloorA
set_option maxRecDepth 100000
section
variable {w w1 w2 : World} {R : Nat} {v : Value} {code : Int}
theorem two_cells {b : Nat} {x y : Value} {t : TypeId} (h : w.heap[b]? = some (.cells #[x, y] t (0, 0))) : w.cell? ⟨b, 0, none⟩ = some x ∧ w.cell? ⟨b, 1, none⟩ = some y ∧ w.frozen? ⟨b, 0, none⟩ = false ∧ w.frozen? ⟨b, 1, none⟩ = false := by
  refine ⟨(cell_of_two h).1, (cell_of_two h).2, ?_, ?_⟩ <;> simp [World.frozen?, h]
theorem two_set {b : Nat} {x y : Value} {t : TypeId} (h : w.heap[b]? = some (.cells #[x, y] t (0, 0))) (x' y' : Value) : ((w.setCell ⟨b, 0, none⟩ x').setCell ⟨b, 1, none⟩ y').heap[b]? = some (.cells #[x', y'] t (0, 0)) := by
  have h1 := heap_setCell_same w b 0 _ t x' h
  have h2 := heap_setCell_same _ b 1 _ t y' h1
  rw [h2]
  rfl
theorem two_below' {b : Nat} (h : Below w.heap.size w w1) (hb : w.heap.size ≤ b) (x' y' : Value) : Below w.heap.size w ((w1.setCell ⟨b, 0, none⟩ x').setCell ⟨b, 1, none⟩ y') := (h.setCell (p := ⟨b, 0, none⟩) hb _).setCell (p := ⟨b, 1, none⟩) hb _
theorem IsErr.set {x : Value} (h : IsErr w v code) {o : Nat} {u : Value} (hR : w.cell? ⟨R, 0, none⟩ = some x) (hx : ∀ c, x ≠ .int .u8 c) : IsErr (w.setCell ⟨R, o, none⟩ u) v code := by
  obtain ⟨b, e, hc⟩ := h
  refine ⟨b, e, ?_⟩
  rw [set_other (fun q => ?_)]
  · exact hc
  · have e2 : R = b := congrArg Addr.block q
    rw [← e2] at hc
    rw [hR] at hc
    exact hx code (by injection hc)
/-- A refusal whose first result lies in the cells of block R. -/
theorem refu_two {x y : Int} (hR : w.heap.size ≤ R) (hb1 : Below w.heap.size w w1) (hz1 : w1.heap[R]? = some (.cells #[.int .u16 x, .int .u32 y] 32 (0, 0))) (hv : IsErr w2 v code) (hc : code ≠ 0) (hb : Below w1.heap.size w1 w2) :
    w2.heap[R]? = some (.cells #[.int .u16 x, .int .u32 y] 32 (0, 0)) ∧ ((w2.setCell ⟨R, 0, none⟩ (.int .u16 0)).setCell ⟨R, 1, none⟩ (.int .u32 0)).heap[R]? = some (.cells #[.int .u16 0, .int .u32 0] 32 (0, 0)) ∧ Refu w v ((w2.setCell ⟨R, 0, none⟩ (.int .u16 0)).setCell ⟨R, 1, none⟩ (.int .u32 0)) code := by
  have hz2 := (hb.block R (heap_lt hz1)).trans hz1
  refine ⟨hz2, two_set hz2 _ _, ?_, hc, two_below' (Below.thr hb1 hb) hR _ _⟩
  have c0 := (two_cells hz2).1
  refine (hv.set c0 (fun c q => by cases q)).set (x := .int .u16 0) (set_same c0) (fun c q => by cases q)
theorem Ext.dr {B : Nat} {X : Nat → Prop} {w w' : World} (h : Ext B X w w') (q : Nat) : Ext B X w (w'.drewN q) := ⟨h.os, h.tape, h.output, h.size, h.block⟩
theorem load32 {x y : Int} (h : w.heap[R]? = some (.cells #[.int .u16 x, .int .u32 y] 32 (0, 0))) : (loadVar 32 ⟨R, 0, none⟩).run Tryz.prog w = .ok (.agg #[.int .u16 x, .int .u32 y]) w :=
  run_loadVar_row w R 32 32 _ _ _ h Tryz.underlying32 rfl (by kernel_rfl)
end
end Go.Proofs.Qxb6500847aGreatDoor.Os
