/-
  play, exactly: Owners.
-/
import Derived.Test.Qxb6500847aGreatDoorOxP
import Derived.Test.Qxb6500847aGreatDoorOxQc
namespace Go.Proofs.Qxb6500847aGreatDoor.Os
open Go.RowKit FloorA
set_option maxRecDepth 100000
section
variable {P A : Nat} {rb sb : Nat → Nat} {s : Av} {tl : Nat → List Int} {ws : Nat → Nat → Nat → Int} {w : World} {L : Nat → List Nat} {n : Nat}
set_option maxHeartbeats 8000000 in
theorem plx19 (h : Hx P A rb sb s tl ws L n w) (i g j gg t bt ct fd a b : Nat) (wv : Value) :
    Calls Tryz.prog 17 #[.pointer (some ⟨P, 0, none⟩), .agg (opA 19 i g j gg t bt ct fd a b wv)] w (PxPost P A rb sb (ownX (ob s ws) i (g : Int), ob s ws) w) := by
  obtain ⟨X, hX⟩ : ∃ X : Rs × (Nat → En), X = (ownX (ob s ws) i (g : Int), ob s ws) := ⟨_, rfl⟩
  rw [← hX]
  have HXE := hideIt hX
  clear hX
  have b0 := plW_below 19 i g j gg t bt ct fd a b wv w
  have zo := plW_op 19 i g j gg t bt ct fd a b wv w
  have zr := plW_rs 19 i g j gg t bt ct fd a b wv w
  have HH := hideIt h
  have HB0 := hideIt b0
  have H0 := hideIt (h.below b0)
  have pc := (h.below b0).pc
  have sz0 : (plW 19 i g j gg t bt ct fd a b wv w).heap.size = w.heap.size + 2 := by unfold plW; rw [Deep.nblk_alloc, Deep.nblk_alloc]
  have z0 : (plW 19 i g j gg t bt ct fd a b wv w).cell? ⟨w.heap.size, 0, none⟩ = some (.int .u8 19) := box_cell zo 0
  have z1 : (plW 19 i g j gg t bt ct fd a b wv w).cell? ⟨w.heap.size, 1, none⟩ = some (.int .u16 (i : Int)) := box_cell zo 1
  have z2 : (plW 19 i g j gg t bt ct fd a b wv w).cell? ⟨w.heap.size, 2, none⟩ = some (.int .u32 (g : Int)) := box_cell zo 2
  have ZR := hideIt zr
  have HSZ := hideIt sz0
  clear h zo zr b0 sz0
  unfold opA
  go_enter Tryz.func17, Tryz.ntmps17
  go_upto_region 1 with fail
  rw [show (w.alloc (.cells #[.int .u8 19, .int .u16 (i : Int), .int .u32 (g : Int), .int .u16 (j : Int), .int .u32 (gg : Int), .int .u8 (t : Int), .int .u8 (bt : Int), .int .u16 (ct : Int), .int .u16 (fd : Int), .int .u64 (a : Int), .int .u64 (b : Int), wv] 37)).alloc (.cells #[.int .u8 0, .slice none 0 0, .slice none 0 0] 57) = plW 19 i g j gg t bt ct fd a b wv w from rfl]
  generalize plW 19 i g j gg t bt ct fd a b wv w = w0 at *
  go_wp2_with fail
  go_at_call 67
  refine (Owners_x H0.out.ms H0.out.iv i (g : Int)).mono ?_
  rintro e w1 hh
  rcases hh with ⟨v, code, hXc, rfl, ⟨hv, hc, hb1⟩⟩ | ⟨l, v, hXc, rfl, hl1, hb1⟩
  · have HB1 := hideIt (Below.thr HB0.out hb1)
    have HG1 := hideIt (H0.out.gl.below hb1)
    have HV1 := hideIt hv
    have HQE : Hid (X = (bad code, ob s ws)) := by show X = _; rw [HXE.out, hXc]
    have zr1 := (hb1.block _ (heap_lt ZR.out)).trans ZR.out
    have ZR1 := hideIt zr1
    obtain ⟨be, rfl, _⟩ := hv
    clear hb1 zr1 ZR hXc
    go_wp2_with fail
    go_at_call 50
    refine (answer_err_at HG1.out HV1.out (by (repeat first | exact Below.refl _ _ | exact alloc_below _ | (refine Below.setCell ?_ (by first | exact Nat.le_refl _ | exact Nat.le_succ _ | (simp; done) | (simp; omega)) _) | (refine Below.alloc ?_ (by first | exact Nat.le_refl _ | (simp; done) | (simp; omega)) _)))).mono ?_
    rintro e w2 ⟨rfl, hb2⟩
    have zr2 := (hb2.block _ (heap_lt ZR1.out)).trans ZR1.out
    obtain ⟨x0, x1, x2, f0, f1, f2⟩ := three_cells zr2
    have HZ2 := hideIt (three_set zr2 (.int .u8 code) (.slice none 0 0) (.slice none 0 0))
    have HF := hideIt (px_err HH.out ((((Below.thr HB1.out hb2).setCell (p := ⟨w.heap.size + 1, 0, none⟩) (Nat.le_succ _) (.int .u8 code)).setCell (p := ⟨w.heap.size + 1, 1, none⟩) (Nat.le_succ _) (.slice none 0 0)).setCell (p := ⟨w.heap.size + 1, 2, none⟩) (Nat.le_succ _) (.slice none 0 0)) HQE.out)
    clear hb2 zr2
    go_wp2
    refine bodyPost_ret (v := .agg #[.int .u8 code, .slice none 0 0, .slice none 0 0]) ?_ rfl HF.out
    exact results_cell_row (by exact Tryz.results17) _ _ (w.heap.size + 1) _ _ _ _ (by rfl) (by exact HZ2.out) Tryz.underlying57 rfl (by kernel_rfl)
  · obtain ⟨ad, cc, rfl, hl2⟩ := hl1
    have HL1 : Hid (IsR w0.heap.size w1 (.slice ad l.length cc) l) := ⟨ad, cc, rfl, hl2⟩
    clear hl2
    obtain ⟨RL, hRL⟩ : ∃ zz : List (Nat × Int), zz = l := ⟨_, rfl⟩
    obtain ⟨VL, hVL⟩ : ∃ zz : List Int, zz = [] := ⟨_, rfl⟩
    have HQE : Hid (X = (⟨0, RL, VL⟩, ob s ws)) := by
      show X = _
      rw [hRL, hVL]
      exact (by rw [HXE.out, hXc])
    have HRL := hideIt hRL
    have HVL := hideIt hVL
    have HB1 := hideIt (Below.thr HB0.out hb1)
    have HS1 : Hid (w.heap.size + 2 ≤ w1.heap.size) := by show _ ≤ _; rw [← HSZ.out]; exact hb1.size
    have zr1 := (hb1.block _ (heap_lt ZR.out)).trans ZR.out
    have ZR1 := hideIt zr1
    clear hb1 zr1 ZR hRL hVL hXc 
    go_wp2_with fail
    go_at_call 50
    refine (answer_ok_x (w1 := w1) (by (repeat first | exact Below.refl _ _ | exact alloc_below _ | (refine Below.setCell ?_ (by first | exact Nat.le_refl _ | exact Nat.le_succ _ | (simp; done) | (simp; omega)) _) | (refine Below.alloc ?_ (by first | exact Nat.le_refl _ | (simp; done) | (simp; omega)) _)))).mono ?_
    rintro e w2 ⟨d1, m1, k1, d2, m2, k2, rfl, hb2, hR2, hV2⟩
    have zr2 := (hb2.block _ (heap_lt ZR1.out)).trans ZR1.out
    obtain ⟨x0, x1, x2, f0, f1, f2⟩ := three_cells zr2
    have HZ2 := hideIt (three_set zr2 (.int .u8 0) (.slice d1 m1 k1) (.slice d2 m2 k2))
    have hR3 := hR2 (w.heap.size + 2) RL (by rw [HRL.out]; exact Sq.below (Sq.mono HL1.out (Nat.le_of_eq HSZ.out.symm)) (by (repeat first | exact Below.refl _ _ | exact alloc_below _ | (refine Below.setCell ?_ (by first | exact Nat.le_refl _ | exact Nat.le_succ _ | (simp; done) | (simp; omega)) _) | (refine Below.alloc ?_ (by first | exact Nat.le_refl _ | (simp; done) | (simp; omega)) _)))) (w.heap.size + 1) (.int .u8 0) (.slice d1 m1 k1) (.slice d2 m2 k2) (Nat.lt_succ_self _)
    have hV3 := hV2 (w.heap.size + 2) VL (by rw [HVL.out]; exact IsU.nil _ _) (w.heap.size + 1) (.int .u8 0) (.slice d1 m1 k1) (.slice d2 m2 k2) (Nat.lt_succ_self _)
    have HF : Hid (PxPost P A rb sb X w (.returned (.agg #[.int .u8 0, .slice d1 m1 k1, .slice d2 m2 k2])) (((w2.setCell ⟨w.heap.size + 1, 0, none⟩ (.int .u8 0)).setCell ⟨w.heap.size + 1, 1, none⟩ (.slice d1 m1 k1)).setCell ⟨w.heap.size + 1, 2, none⟩ (.slice d2 m2 k2))) := by
      rw [show X = _ from HQE.out]
      exact px_same (X := (⟨0, RL, VL⟩, ob s ws)) HH.out ((((Below.thr HB1.out hb2).setCell (p := ⟨w.heap.size + 1, 0, none⟩) (Nat.le_succ _) (.int .u8 0)).setCell (p := ⟨w.heap.size + 1, 1, none⟩) (Nat.le_succ _) (.slice d1 m1 k1)).setCell (p := ⟨w.heap.size + 1, 2, none⟩) (Nat.le_succ _) (.slice d2 m2 k2)) rfl hR3 hV3
    clear hb2 hR2 hV2 hR3 hV3 zr2
    go_wp2
    refine bodyPost_ret (v := .agg #[.int .u8 0, .slice d1 m1 k1, .slice d2 m2 k2]) ?_ rfl HF.out
    exact results_cell_row (by exact Tryz.results17) _ _ (w.heap.size + 1) _ _ _ _ (by rfl) (by exact HZ2.out) Tryz.underlying57 rfl (by kernel_rfl)
end
end Go.Proofs.Qxb6500847aGreatDoor.Os
