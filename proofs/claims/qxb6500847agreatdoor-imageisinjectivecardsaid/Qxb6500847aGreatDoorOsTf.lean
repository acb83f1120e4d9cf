/-
  typedStore: the boxes.
-/
import Derived.Test.Qxb6500847aGreatDoorOsTe
import Derived.Test.Qxb6500847aGreatDoorOsQb
import Derived.Test.Qxb6500847aGreatDoorOsQd
import Derived.BigQuiet
namespace Go.Proofs.Qxb6500847aGreatDoor.Os
open Go.RowKit FloorA
set_option maxRecDepth 100000
section
variable {A : Nat} {rb sb : Nat → Nat} {s : Av} {tl : Nat → List Int} {ws : Nat → Nat → Nat → Int} {w : World} {L : Nat → List Nat} {n : Nat}
/-- What typedStore answers. -/
def TsPost (A : Nat) (rb sb : Nat → Nat) (s : Av) (tl : Nat → List Int) (ws : Nat → Nat → Nat → Int) (X : Int × (Nat → En)) (w : World) (e : Ending) (w' : World) : Prop :=
  (e = .returned (.tuple #[.bool false, .nilIface]) ∧ Below w.heap.size w w') ∨ ∃ v, e = .returned (.tuple #[.bool true, v]) ∧ MrPost A rb sb s tl ws X w (.returned v) w'
/-- A typed update of one field is a store. -/
theorem upd_wc {t f : Nat} {W : Nat → Int} {v : Int} (hW : Wc t W) (hf : f < nF t) : Wc t (upd W f v) ↔ vOk t f v := by
  constructor
  · intro q
    have h1 := q f hf
    unfold upd at h1
    rw [if_pos rfl] at h1
    exact h1
  · intro q x hx
    unfold upd
    by_cases e : x = f
    · rw [if_pos e, e]; exact q
    · rw [if_neg e]; exact hW x hx
theorem upd_sto {i t f : Nat} {g v : Int} (hI : IV s tl L n) (hW : Wr ws) (ht : (if Live s i g then (s.hd i).typ else 0) = ((t + 2 : Nat) : Int)) (t6 : t < 6) (hf : f < nF t) (hv : v < fMax t f) : updS s ws i g t (fun W => upd W f v) = stoX (ob s ws) i g f v := by
  have hl : Live s i g := Classical.byContradiction fun q => by rw [if_neg q] at ht; omega
  rw [if_pos hl] at ht
  obtain ⟨r, er, r1, _⟩ := hI.tb.row i (t + 2) hl.1 (by omega) (by omega) ht
  have hlen : f < (ob s ws i).wds.length := by rw [wds_obj hl.1 ht er, wlist_len]; exact hf
  by_cases q : vOk t f v
  · rw [updS_ok hl ht er ((upd_wc (hW t r t6 r1).2 hf).2 q), stoX_ok hI hl hlen ht er ⟨hv, q⟩, ob_row hI hl.1 ht er]
    rfl
  · rw [updS_bad hl ht er (fun k => q ((upd_wc (hW t r t6 r1).2 hf).1 k)), stoX_bad hl hlen ht (fun k => q k.2)]
theorem putC_upd {W : Nat → Int} {c j : Nat} {v : Int} (hj : j < 7) : putC W c (upd (fun j => W (7 * c + j)) j v) = upd W (7 * c + j) v := by
  funext x
  unfold putC upd
  by_cases e : x / 7 = c
  · rw [if_pos e]
    by_cases q : x % 7 = j
    · rw [if_pos q, if_pos (by omega)]
    · rw [if_neg q, if_neg (by omega)]
      show W (7 * c + x % 7) = W x
      rw [show 7 * c + x % 7 = x by omega]
  · rw [if_neg e, if_neg (by omega)]
/-- The three boxes. -/
def bxW (A i : Nat) (g : Int) (v : Nat) (w : World) : World := ((w.alloc (.cells #[.pointer (some ⟨A, 0, none⟩)] 24)).alloc (.cells #[.int .u16 (i : Int), .int .u32 g] 32)).alloc (.cells #[.int .u64 (v : Int)] 34)
theorem bx_below (A i : Nat) (g : Int) (v : Nat) (w : World) : Below w.heap.size w (bxW A i g v w) := Below.thr (two_below (w := w) _ _) (alloc_below _)
theorem bx_v (A i : Nat) (g : Int) (v : Nat) (w : World) : (bxW A i g v w).cell? ⟨w.heap.size + 1 + 1, 0, none⟩ = some (.int .u64 (v : Int)) := cell_of_one (new_at _ _ (by simp))
theorem bx_bx (A i : Nat) (g : Int) (v : Nat) (w : World) : Bx w.heap.size (w.heap.size + 1) A i g (bxW A i g v w) := by
  have h0 : (bxW A i g v w).heap[w.heap.size]? = some (.cells #[.pointer (some ⟨A, 0, none⟩)] 24 (0, 0)) := (heap_alloc_old _ _ (by simp <;> omega)).trans ((heap_alloc_old _ _ (by simp)).trans (heap_new _ _))
  have h1 : (bxW A i g v w).heap[w.heap.size + 1]? = some (.cells #[.int .u16 (i : Int), .int .u32 g] 32 (0, 0)) := (heap_alloc_old _ _ (by simp)).trans (new_at _ _ (Deep.nblk_alloc _ _))
  exact ⟨cell_of_one h0, (ref_agg h1).1, (ref_agg h1).2⟩
end
end Go.Proofs.Qxb6500847aGreatDoor.Os
