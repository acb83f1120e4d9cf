/-
  The abstract model: a step, ahead of its kinds.
-/
import Derived.Test.Qxb6500847aGreatDoorOxP
import Derived.Test.Qxb6500847aGreatDoorMdX
namespace Go.Proofs.Qxb6500847aGreatDoor.Os
open Go.RowKit FloorA
set_option maxRecDepth 100000
section
variable {w w' : World} {B : Nat} {wb : Nat → Nat} {M : Nat → En}
theorem MsP.form {X : Rs × (Nat → En)} {e : Ending} (h : MsP B wb M X w e w') : ∃ d1 m1 k1 d2 m2 k2, e = .returned (.agg #[.int .u8 X.1.code, .slice d1 m1 k1, .slice d2 m2 k2]) := by
  obtain ⟨r, v, wb', e1, e2, e3, _⟩ := h
  obtain ⟨d1, k1, q1, _⟩ := e2
  obtain ⟨d2, k2, q2, _⟩ := e3
  exact ⟨d1, _, k1, d2, _, k2, by rw [e1, q1, q2]⟩
/-- The answer goes from a callee's world into the box R of the caller. -/
theorem MsP.up {X : Rs × (Nat → En)} {e : Ending} {w0 w1 : World} {R : Nat} (h : Md w B wb M) (b0 : Below w.heap.size w w0) (hR : w.heap.size ≤ R) (hR0 : R < w0.heap.size) (hp : MsP B wb M X w0 e w1) (x y z : Value) : MsP B wb M X w e (((w1.setCell ⟨R, 0, none⟩ x).setCell ⟨R, 1, none⟩ y).setCell ⟨R, 2, none⟩ z) := by
  obtain ⟨r, v, wb', e1, e2, e3, e4, e5, e6⟩ := hp
  have hsz := b0.size
  have f1 : Ext w.heap.size (Tm B wb M) w w1 := (Ext.of_below b0 _).trans e5 hsz (fun _ _ q => q)
  have f2 := ((f1.setCell (p := ⟨R, 0, none⟩) (Or.inl hR) x).setCell (p := ⟨R, 1, none⟩) (Or.inl hR) y).setCell (p := ⟨R, 2, none⟩) (Or.inl hR) z
  have f3 : Ext w1.heap.size (fun b => b = R) w1 (((w1.setCell ⟨R, 0, none⟩ x).setCell ⟨R, 1, none⟩ y).setCell ⟨R, 2, none⟩ z) := (((Ext.refl w1.heap.size (fun b => b = R) w1).setCell (p := ⟨R, 0, none⟩) (Or.inr rfl) _).setCell (p := ⟨R, 1, none⟩) (Or.inr rfl) _).setCell (p := ⟨R, 2, none⟩) (Or.inr rfl) _
  refine ⟨r, v, wb', e1, ?_, ?_, e4.ext f3 (fun b hb q => ?_), f2, fun b hb => ?_⟩
  · exact Sq.mono (Sq.fin e2 (Below.refl _ _) hR0 x y z) hsz
  · exact Sq.mono (Sq.fin e3 (Below.refl _ _) hR0 x y z) hsz
  · rcases e6 b hb with p | p
    · have := h.tlt p
      omega
    · omega
  · rcases e6 b hb with p | p
    · exact Or.inl p
    · exact Or.inr (by omega)
/-- The box is as it was. -/
theorem MsP.box {X : Rs × (Nat → En)} {e : Ending} {w0 w1 : World} {R : Nat} {o : Obj} (h : Md w B wb M) (hR : w.heap.size ≤ R) (hp : MsP B wb M X w0 e w1) (hz : w0.heap[R]? = some o) : w1.heap[R]? = some o := by
  obtain ⟨_, _, _, _, _, _, _, e5, _⟩ := hp
  refine (e5.block R (heap_lt hz) (fun q => ?_)).trans hz
  have := h.tlt q
  omega
end
section
variable {s : Av} {tl : Nat → List Int} {ws : Nat → Nat → Nat → Int} {L : Nat → List Nat} {n : Nat}
theorem Sd.noKids (h : Sd s tl ws L n) : ∀ p, p < 320 → (ob s ws p).typ ≠ 1 → kdsM (ob s ws) p = [] := fun p hp ht => by
  refine kds_eq (kds_none h.iv (fun q => ht ?_) hp)
  rw [ob_at _ _ hp]
  exact q.2.2
theorem Sd.up (h : Sd s tl ws L n) : ∀ j, j < 320 → (ob s ws j).typ ≠ 0 → ∃ l, Up (ob s ws) (ob s ws j).par l := fun j hj ht => by
  rw [ob_at _ _ hj] at ht ⊢
  exact up_ex h.iv hj ht
theorem Sd.far (_ : Sd s tl ws L n) : ∀ j, 320 ≤ j → (ob s ws j).typ = 0 := fun j hj => by
  rw [ob_out _ _ (by omega)]
  rfl
theorem Sd.obj (h : Sd s tl ws L n) : ∀ i, i < 256 → (ob s ws i).typ ≠ 0 → (ob s ws i).par ≠ 65535 := fun i hi ht hp => by
  rw [ob_at _ _ (by omega)] at ht hp
  obtain ⟨k, hk, e⟩ := h.iv.ro.all i (by omega) ht hp
  have r1 := (h.iv.ro.reg k i hk e).1.1
  omega
end
end Go.Proofs.Qxb6500847aGreatDoor.Os
