/-
  The abstract model: a step, kind 18.
-/
import Derived.Test.Qxb6500847aGreatDoorMtP
import Derived.Test.Qxb6500847aGreatDoorMdJ
import Derived.Test.Qxb6500847aGreatDoorMdM
namespace Go.Proofs.Qxb6500847aGreatDoor.Os
open Go.RowKit FloorA
set_option maxRecDepth 100000
section
variable {s : Av} {tl : Nat → List Int} {ws : Nat → Nat → Nat → Int} {L : Nat → List Nat} {n : Nat} {w : World} {B : Nat} {wb : Nat → Nat}
set_option maxHeartbeats 8000000 in
theorem mst18 (h : Md w B wb (ob s ws)) (_ : Sd s tl ws L n) (i g j gg t bt ct fd a b : Nat) (wv : Value)  :
    Calls Tryz.prog 19 #[.pointer (some ⟨B, 0, none⟩), .agg (opA 18 i g j gg t bt ct fd a b wv)] w (MsP B wb (ob s ws) ((⟨0, [], []⟩, ob s ws)) w) := by
  have b0 := plW_below 18 i g j gg t bt ct fd a b wv w
  have zo := plW_op 18 i g j gg t bt ct fd a b wv w
  have zr := plW_rs 18 i g j gg t bt ct fd a b wv w
  have HM := hideIt h
  have HB := hideIt b0
  have ZR := hideIt zr
  have z0 : (plW 18 i g j gg t bt ct fd a b wv w).cell? ⟨w.heap.size, 0, none⟩ = some (.int .u8 18) := box_cell zo 0
  clear h zo zr b0
  unfold opA
  go_enter Tryz.func19, Tryz.ntmps19
  go_upto_region 1 with fail
  rw [show (w.alloc (.cells #[.int .u8 18, .int .u16 (i : Int), .int .u32 (g : Int), .int .u16 (j : Int), .int .u32 (gg : Int), .int .u8 (t : Int), .int .u8 (bt : Int), .int .u16 (ct : Int), .int .u16 (fd : Int), .int .u64 (a : Int), .int .u64 (b : Int), wv] 37)).alloc (.cells #[.int .u8 0, .slice none 0 0, .slice none 0 0] 57) = plW 18 i g j gg t bt ct fd a b wv w from rfl]
  generalize plW 18 i g j gg t bt ct fd a b wv w = w0 at *
  have hs := ZR.out
  obtain ⟨x0, x1, x2, f0, f1, f2⟩ := three_cells hs
  have HZ := hideIt (three_set hs (.int .u8 0) (.slice none 0 0) (.slice none 0 0))
  have HF := hideIt (MsP.finR (R := w.heap.size + 1) (X := ⟨0, [], []⟩) HM.out HB.out (Nat.le_succ _) rfl (IsR.nil _ _) (IsU.nil _ _) (.int .u8 0) (.slice none 0 0) (.slice none 0 0))
  clear hs
  go_wp2_with fail
  refine bodyPost_ret (v := .agg #[.int .u8 0, .slice none 0 0, .slice none 0 0]) ?_ rfl HF.out
  exact results_cell_row (by exact Tryz.results19) _ _ (w.heap.size + 1) _ _ _ _ (by rfl) (by exact HZ.out) Tryz.underlying57 rfl (by kernel_rfl)
end
end Go.Proofs.Qxb6500847aGreatDoor.Os
