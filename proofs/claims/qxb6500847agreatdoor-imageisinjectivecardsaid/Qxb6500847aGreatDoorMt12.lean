/-
  The abstract model: a step, kind 12.
-/
import Derived.Test.Qxb6500847aGreatDoorMtP
import Derived.Test.Qxb6500847aGreatDoorMdK
namespace Go.Proofs.Qxb6500847aGreatDoor.Os
open Go.RowKit FloorA
set_option maxRecDepth 100000
section
variable {s : Av} {tl : Nat → List Int} {ws : Nat → Nat → Nat → Int} {L : Nat → List Nat} {n : Nat} {w : World} {B : Nat} {wb : Nat → Nat}
set_option maxHeartbeats 8000000 in
theorem mst12 (h : Md w B wb (ob s ws)) (hS : Sd s tl ws L n) (i g j gg t bt ct fd a b : Nat) (wv : Value) (h6 : i < 65536) (hfd : fd < 65536) :
    Calls Tryz.prog 19 #[.pointer (some ⟨B, 0, none⟩), .agg (opA 12 i g j gg t bt ct fd a b wv)] w (MsP B wb (ob s ws) ((loaX (ob s ws) i (g : Int) fd, ob s ws)) w) := by
  have b0 := plW_below 12 i g j gg t bt ct fd a b wv w
  have zo := plW_op 12 i g j gg t bt ct fd a b wv w
  have zr := plW_rs 12 i g j gg t bt ct fd a b wv w
  have HM := hideIt h
  have HB := hideIt b0
  have H0 := hideIt (h.below b0)
  have HSd := hideIt hS
  have ZR := hideIt zr
  have z0 : (plW 12 i g j gg t bt ct fd a b wv w).cell? ⟨w.heap.size, 0, none⟩ = some (.int .u8 12) := box_cell zo 0
  have z1 : (plW 12 i g j gg t bt ct fd a b wv w).cell? ⟨w.heap.size, 1, none⟩ = some (.int .u16 (i : Int)) := box_cell zo 1
  have z2 : (plW 12 i g j gg t bt ct fd a b wv w).cell? ⟨w.heap.size, 2, none⟩ = some (.int .u32 (g : Int)) := box_cell zo 2
  have z8 : (plW 12 i g j gg t bt ct fd a b wv w).cell? ⟨w.heap.size, 8, none⟩ = some (.int .u16 (fd : Int)) := box_cell zo 8
  have hfw : wrap64 (fd : Int) = (fd : Int) := by unfold wrap64; omega
  clear h zo zr b0 hS
  unfold opA
  go_enter Tryz.func19, Tryz.ntmps19
  go_upto_region 1 with fail
  rw [show (w.alloc (.cells #[.int .u8 12, .int .u16 (i : Int), .int .u32 (g : Int), .int .u16 (j : Int), .int .u32 (gg : Int), .int .u8 (t : Int), .int .u8 (bt : Int), .int .u16 (ct : Int), .int .u16 (fd : Int), .int .u64 (a : Int), .int .u64 (b : Int), wv] 37)).alloc (.cells #[.int .u8 0, .slice none 0 0, .slice none 0 0] 57) = plW 12 i g j gg t bt ct fd a b wv w from rfl]
  generalize plW 12 i g j gg t bt ct fd a b wv w = w0 at *
  go_wp2_with fail
  go_at_call 82
  refine (load_m H0.out HSd.out.num i h6 (g : Int) (f := fd)).mono ?_
  rintro e w1 hp
  have HF := hideIt (MsP.up (R := w.heap.size + 1) HM.out HB.out (Nat.le_succ _) (heap_lt ZR.out) hp)
  have zr1 := MsP.box HM.out (Nat.le_succ _) hp ZR.out
  obtain ⟨d1, m1, k1, d2, m2, k2, he⟩ := hp.form
  subst he
  obtain ⟨x0, x1, x2, f0, f1, f2⟩ := three_cells zr1
  generalize hco : ((loaX (ob s ws) i (g : Int) fd, ob s ws)).1.code = co at *
  clear hco
  have HZ := hideIt (three_set zr1 (.int .u8 co) (.slice d1 m1 k1) (.slice d2 m2 k2))
  have HF2 := hideIt (HF.out (.int .u8 co) (.slice d1 m1 k1) (.slice d2 m2 k2))
  clear hp zr1 HF
  go_wp2
  refine bodyPost_ret (v := .agg #[.int .u8 co, .slice d1 m1 k1, .slice d2 m2 k2]) ?_ rfl HF2.out
  exact results_cell_row (by exact Tryz.results19) _ _ (w.heap.size + 1) _ _ _ _ (by rfl) (by exact HZ.out) Tryz.underlying57 rfl (by kernel_rfl)
end
end Go.Proofs.Qxb6500847aGreatDoor.Os
