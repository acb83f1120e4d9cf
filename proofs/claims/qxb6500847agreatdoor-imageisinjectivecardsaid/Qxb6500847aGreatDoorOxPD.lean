/-
  play, exactly: no such kind.
-/
import Derived.Test.Qxb6500847aGreatDoorOxP
namespace Go.Proofs.Qxb6500847aGreatDoor.Os
open Go.RowKit FloorA
set_option maxRecDepth 100000
section
variable {P A : Nat} {rb sb : Nat → Nat} {s : Av} {tl : Nat → List Int} {ws : Nat → Nat → Nat → Int} {w : World} {L : Nat → List Nat} {n : Nat}
set_option maxHeartbeats 8000000 in
theorem plxD (h : Hx P A rb sb s tl ws L n w) (i g j gg t bt ct fd a b : Nat) (wv : Value) (k : Nat) (hk : 21 ≤ k) :
    Calls Tryz.prog 17 #[.pointer (some ⟨P, 0, none⟩), .agg (opA k i g j gg t bt ct fd a b wv)] w (PxPost P A rb sb (bad 18, ob s ws) w) := by
  obtain ⟨X, hX⟩ : ∃ X : Rs × (Nat → En), X = (bad 18, ob s ws) := ⟨_, rfl⟩
  rw [← hX]
  have HXE := hideIt hX
  clear hX
  have b0 := plW_below k i g j gg t bt ct fd a b wv w
  have zo := plW_op k i g j gg t bt ct fd a b wv w
  have zr := plW_rs k i g j gg t bt ct fd a b wv w
  have HH := hideIt h
  have HB0 := hideIt b0
  have H0 := hideIt (h.below b0)
  have pc := (h.below b0).pc
  have sz0 : (plW k i g j gg t bt ct fd a b wv w).heap.size = w.heap.size + 2 := by unfold plW; rw [Deep.nblk_alloc, Deep.nblk_alloc]
  have z0 : (plW k i g j gg t bt ct fd a b wv w).cell? ⟨w.heap.size, 0, none⟩ = some (.int .u8 (k : Int)) := box_cell zo 0
  have ZR := hideIt zr
  have HSZ := hideIt sz0
  clear h zo zr b0 sz0
  unfold opA
  go_enter Tryz.func17, Tryz.ntmps17
  go_upto_region 1 with fail
  rw [show (w.alloc (.cells #[.int .u8 (k : Int), .int .u16 (i : Int), .int .u32 (g : Int), .int .u16 (j : Int), .int .u32 (gg : Int), .int .u8 (t : Int), .int .u8 (bt : Int), .int .u16 (ct : Int), .int .u16 (fd : Int), .int .u64 (a : Int), .int .u64 (b : Int), wv] 37)).alloc (.cells #[.int .u8 0, .slice none 0 0, .slice none 0 0] 57) = plW k i g j gg t bt ct fd a b wv w from rfl]
  generalize plW k i g j gg t bt ct fd a b wv w = w0 at *
  have hk' : (21 : Int) ≤ (k : Int) := by omega
  have x := three_cells ZR.out
  obtain ⟨x0, x1, x2, f0, f1, f2⟩ := x
  have HZ2 := hideIt (three_set ZR.out (.int .u8 18) (.slice none 0 0) (.slice none 0 0))
  have HF := hideIt (px_err HH.out (((HB0.out.setCell (p := ⟨w.heap.size + 1, 0, none⟩) (Nat.le_succ _) (.int .u8 18)).setCell (p := ⟨w.heap.size + 1, 1, none⟩) (Nat.le_succ _) (.slice none 0 0)).setCell (p := ⟨w.heap.size + 1, 2, none⟩) (Nat.le_succ _) (.slice none 0 0)) HXE.out)
  clear hk
  go_wp2
  refine bodyPost_ret (v := .agg #[.int .u8 18, .slice none 0 0, .slice none 0 0]) ?_ rfl HF.out
  exact results_cell_row (by exact Tryz.results17) _ _ (w.heap.size + 1) _ _ _ _ (by rfl) (by exact HZ2.out) Tryz.underlying57 rfl (by kernel_rfl)
end
end Go.Proofs.Qxb6500847aGreatDoor.Os
