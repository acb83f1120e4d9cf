/-
  The abstract model: a step, kind D.
-/
import Derived.Test.Qxb6500847aGreatDoorMtP
import Derived.Test.Qxb6500847aGreatDoorMdJ
import Derived.Test.Qxb6500847aGreatDoorMdM
namespace Go.Proofs.Qxb6500847aGreatDoor.Os
open Go.RowKit FloorA
set_option maxRecDepth 100000
section
variable {s : Av} {tl : Nat → List Int} {ws : Nat → Nat → Nat → Int} {L : Nat → List Nat} {n : Nat} {w : World} {B : Nat} {wb : Nat → Nat}
set_option maxHeartbeats 8000000 in
theorem mstD (h : Md w B wb (ob s ws)) (_ : Sd s tl ws L n) (i g j gg t bt ct fd a b : Nat) (wv : Value) (k : Nat) (h21 : 21 ≤ k) :
    Calls Tryz.prog 19 #[.pointer (some ⟨B, 0, none⟩), .agg (opA k i g j gg t bt ct fd a b wv)] w (MsP B wb (ob s ws) ((bad 18, ob s ws)) w) := by
  have b0 := plW_below k i g j gg t bt ct fd a b wv w
  have zo := plW_op k i g j gg t bt ct fd a b wv w
  have zr := plW_rs k i g j gg t bt ct fd a b wv w
  have HM := hideIt h
  have HB := hideIt b0
  have ZR := hideIt zr
  have z0 : (plW k i g j gg t bt ct fd a b wv w).cell? ⟨w.heap.size, 0, none⟩ = some (.int .u8 (k : Int)) := box_cell zo 0
  have k0 : ((k : Int) == 0) = false := by rw [beq_eq_false_iff_ne]; omega
  have k1 : ((k : Int) == 1) = false := by rw [beq_eq_false_iff_ne]; omega
  have k2 : ((k : Int) == 2) = false := by rw [beq_eq_false_iff_ne]; omega
  have k3 : ((k : Int) == 3) = false := by rw [beq_eq_false_iff_ne]; omega
  have k4 : ((k : Int) == 4) = false := by rw [beq_eq_false_iff_ne]; omega
  have k5 : ((k : Int) == 5) = false := by rw [beq_eq_false_iff_ne]; omega
  have k6 : ((k : Int) == 6) = false := by rw [beq_eq_false_iff_ne]; omega
  have k7 : ((k : Int) == 7) = false := by rw [beq_eq_false_iff_ne]; omega
  have k8 : ((k : Int) == 8) = false := by rw [beq_eq_false_iff_ne]; omega
  have k9 : ((k : Int) == 9) = false := by rw [beq_eq_false_iff_ne]; omega
  have k10 : ((k : Int) == 10) = false := by rw [beq_eq_false_iff_ne]; omega
  have k11 : ((k : Int) == 11) = false := by rw [beq_eq_false_iff_ne]; omega
  have k12 : ((k : Int) == 12) = false := by rw [beq_eq_false_iff_ne]; omega
  have k13 : ((k : Int) == 13) = false := by rw [beq_eq_false_iff_ne]; omega
  have k14 : ((k : Int) == 14) = false := by rw [beq_eq_false_iff_ne]; omega
  have k15 : ((k : Int) == 15) = false := by rw [beq_eq_false_iff_ne]; omega
  have k16 : ((k : Int) == 16) = false := by rw [beq_eq_false_iff_ne]; omega
  have k17 : ((k : Int) == 17) = false := by rw [beq_eq_false_iff_ne]; omega
  have k18 : ((k : Int) == 18) = false := by rw [beq_eq_false_iff_ne]; omega
  have k19 : ((k : Int) == 19) = false := by rw [beq_eq_false_iff_ne]; omega
  have k20 : ((k : Int) == 20) = false := by rw [beq_eq_false_iff_ne]; omega
  clear h zo zr b0
  unfold opA
  go_enter Tryz.func19, Tryz.ntmps19
  go_upto_region 1 with fail
  rw [show (w.alloc (.cells #[.int .u8 (k : Int), .int .u16 (i : Int), .int .u32 (g : Int), .int .u16 (j : Int), .int .u32 (gg : Int), .int .u8 (t : Int), .int .u8 (bt : Int), .int .u16 (ct : Int), .int .u16 (fd : Int), .int .u64 (a : Int), .int .u64 (b : Int), wv] 37)).alloc (.cells #[.int .u8 0, .slice none 0 0, .slice none 0 0] 57) = plW k i g j gg t bt ct fd a b wv w from rfl]
  generalize plW k i g j gg t bt ct fd a b wv w = w0 at *
  go_wp2_with (go_at_call 90; refine (fail_m _ _).mono ?_; rintro e w3 ⟨rfl, hb3⟩; have hs3 := (hb3.block _ (heap_lt ZR.out)).trans ZR.out; obtain ⟨x0, x1, x2, f0, f1, f2⟩ := three_cells hs3; have HZ := hideIt (three_set hs3 (.int .u8 18) (.slice none 0 0) (.slice none 0 0)); have HF := hideIt (MsP.badR (R := w.heap.size + 1) (X := (bad 18, ob s ws)) HM.out (Below.thr HB.out hb3) (Nat.le_succ _) rfl (.int .u8 18) (.slice none 0 0) (.slice none 0 0)); clear hb3 hs3)
  refine bodyPost_ret (v := .agg #[.int .u8 18, .slice none 0 0, .slice none 0 0]) ?_ rfl HF.out
  exact results_cell_row (by exact Tryz.results19) _ _ (w.heap.size + 1) _ _ _ _ (by rfl) (by exact HZ.out) Tryz.underlying57 rfl (by kernel_rfl)
end
end Go.Proofs.Qxb6500847aGreatDoor.Os
