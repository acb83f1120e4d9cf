/-
  play, exactly: Generation.
-/
import Derived.Test.Qxb6500847aGreatDoorOxP
import Derived.Test.Qxb6500847aGreatDoorOxQb
namespace Go.Proofs.Qxb6500847aGreatDoor.Os
open Go.RowKit FloorA
set_option maxRecDepth 100000
section
variable {P A : Nat} {rb sb : Nat → Nat} {s : Av} {tl : Nat → List Int} {ws : Nat → Nat → Nat → Int} {w : World} {L : Nat → List Nat} {n : Nat}
theorem gen_rng {i : Nat} {g1 x : Int} (hI : IV s tl L n) (h : genX (ob s ws) i = ⟨0, [], [g1, x]⟩) : 0 ≤ g1 ∧ g1 < 18446744073709551616 := by
  unfold genX at h
  by_cases hi : i < 320
  · rw [if_pos hi, ob_at _ _ hi] at h
    injection h with _ _ h3
    injection h3 with h4 _
    obtain ⟨k, e, _, k2, _⟩ := hI.ge.gen i hi
    have h5 : (s.hd i).gen = g1 := h4
    omega
  · rw [if_neg hi] at h
    injection h with h1
    exact absurd h1 (by decide)
set_option maxHeartbeats 8000000 in
theorem plx11 (h : Hx P A rb sb s tl ws L n w) (i g j gg t bt ct fd a b : Nat) (wv : Value) :
    Calls Tryz.prog 17 #[.pointer (some ⟨P, 0, none⟩), .agg (opA 11 i g j gg t bt ct fd a b wv)] w (PxPost P A rb sb (genX (ob s ws) i, ob s ws) w) := by
  obtain ⟨X, hX⟩ : ∃ X : Rs × (Nat → En), X = (genX (ob s ws) i, ob s ws) := ⟨_, rfl⟩
  rw [← hX]
  have HXE := hideIt hX
  clear hX
  have b0 := plW_below 11 i g j gg t bt ct fd a b wv w
  have zo := plW_op 11 i g j gg t bt ct fd a b wv w
  have zr := plW_rs 11 i g j gg t bt ct fd a b wv w
  have HH := hideIt h
  have HB0 := hideIt b0
  have H0 := hideIt (h.below b0)
  have pc := (h.below b0).pc
  have sz0 : (plW 11 i g j gg t bt ct fd a b wv w).heap.size = w.heap.size + 2 := by unfold plW; rw [Deep.nblk_alloc, Deep.nblk_alloc]
  have z0 : (plW 11 i g j gg t bt ct fd a b wv w).cell? ⟨w.heap.size, 0, none⟩ = some (.int .u8 11) := box_cell zo 0
  have z1 : (plW 11 i g j gg t bt ct fd a b wv w).cell? ⟨w.heap.size, 1, none⟩ = some (.int .u16 (i : Int)) := box_cell zo 1
  have ZR := hideIt zr
  have HSZ := hideIt sz0
  clear h zo zr b0 sz0
  unfold opA
  go_enter Tryz.func17, Tryz.ntmps17
  go_upto_region 1 with fail
  rw [show (w.alloc (.cells #[.int .u8 11, .int .u16 (i : Int), .int .u32 (g : Int), .int .u16 (j : Int), .int .u32 (gg : Int), .int .u8 (t : Int), .int .u8 (bt : Int), .int .u16 (ct : Int), .int .u16 (fd : Int), .int .u64 (a : Int), .int .u64 (b : Int), wv] 37)).alloc (.cells #[.int .u8 0, .slice none 0 0, .slice none 0 0] 57) = plW 11 i g j gg t bt ct fd a b wv w from rfl]
  generalize plW 11 i g j gg t bt ct fd a b wv w = w0 at *
  go_wp2_with fail
  go_at_call 59
  refine (Generation_x H0.out.ms.am ws i).mono ?_
  rintro e w1 hh
  rcases hh with ⟨v, code, hXc, rfl, ⟨hv, hc, hb1⟩⟩ | ⟨⟨g1, bb, hXc, rfl⟩, hb1⟩
  · have HB1 := hideIt (Below.thr HB0.out hb1)
    have HG1 := hideIt (H0.out.gl.below hb1)
    have HV1 := hideIt hv
    have HQE : Hid (X = (bad code, ob s ws)) := by show X = _; rw [HXE.out, hXc]
    have zr1 := (hb1.block _ (heap_lt ZR.out)).trans ZR.out
    have ZR1 := hideIt zr1
    obtain ⟨be, rfl, _⟩ := hv
    clear hb1 zr1 ZR hXc
    go_wp2_with fail
    go_at_call 50
    refine (answer_err_at HG1.out HV1.out (by (repeat first | exact Below.refl _ _ | exact alloc_below _ | (refine Below.setCell ?_ (by first | exact Nat.le_refl _ | exact Nat.le_succ _ | (simp; done) | (simp; omega)) _) | (refine Below.alloc ?_ (by first | exact Nat.le_refl _ | (simp; done) | (simp; omega)) _)))).mono ?_
    rintro e w2 ⟨rfl, hb2⟩
    have zr2 := (hb2.block _ (heap_lt ZR1.out)).trans ZR1.out
    obtain ⟨x0, x1, x2, f0, f1, f2⟩ := three_cells zr2
    have HZ2 := hideIt (three_set zr2 (.int .u8 code) (.slice none 0 0) (.slice none 0 0))
    have HF := hideIt (px_err HH.out ((((Below.thr HB1.out hb2).setCell (p := ⟨w.heap.size + 1, 0, none⟩) (Nat.le_succ _) (.int .u8 code)).setCell (p := ⟨w.heap.size + 1, 1, none⟩) (Nat.le_succ _) (.slice none 0 0)).setCell (p := ⟨w.heap.size + 1, 2, none⟩) (Nat.le_succ _) (.slice none 0 0)) HQE.out)
    clear hb2 zr2
    go_wp2
    refine bodyPost_ret (v := .agg #[.int .u8 code, .slice none 0 0, .slice none 0 0]) ?_ rfl HF.out
    exact results_cell_row (by exact Tryz.results17) _ _ (w.heap.size + 1) _ _ _ _ (by rfl) (by exact HZ2.out) Tryz.underlying57 rfl (by kernel_rfl)
  · have HG0 := hideIt (gen_rng H0.out.iv hXc)
    cases bb
    · obtain ⟨RL, hRL⟩ : ∃ zz : List (Nat × Int), zz = [] := ⟨_, rfl⟩
      obtain ⟨VL, hVL⟩ : ∃ zz : List Int, zz = [g1, if false = true then 1 else 0] := ⟨_, rfl⟩
      have HQE : Hid (X = (⟨0, RL, VL⟩, ob s ws)) := by
        show X = _
        rw [hRL, hVL]
        exact (by rw [HXE.out, hXc])
      have HRL := hideIt hRL
      have HVL := hideIt hVL
      have HB1 := hideIt (Below.thr HB0.out hb1)
      have HS1 : Hid (w.heap.size + 2 ≤ w1.heap.size) := by show _ ≤ _; rw [← HSZ.out]; exact hb1.size
      have zr1 := (hb1.block _ (heap_lt ZR.out)).trans ZR.out
      have ZR1 := hideIt zr1
      clear hb1 zr1 ZR hRL hVL hXc
      go_wp2_with fail
      go_at_call 50
      refine (answer_ok_x (w1 := w1) (by (repeat first | exact Below.refl _ _ | exact alloc_below _ | (refine Below.setCell ?_ (by first | exact Nat.le_refl _ | exact Nat.le_succ _ | (simp; done) | (simp; omega)) _) | (refine Below.alloc ?_ (by first | exact Nat.le_refl _ | (simp; done) | (simp; omega)) _)))).mono ?_
      rintro e w2 ⟨d1, m1, k1, d2, m2, k2, rfl, hb2, hR2, hV2⟩
      have zr2 := (hb2.block _ (heap_lt ZR1.out)).trans ZR1.out
      obtain ⟨x0, x1, x2, f0, f1, f2⟩ := three_cells zr2
      have HZ2 := hideIt (three_set zr2 (.int .u8 0) (.slice d1 m1 k1) (.slice d2 m2 k2))
      have hR3 := hR2 (w.heap.size + 2) RL (by rw [HRL.out]; exact IsR.nil _ _) (w.heap.size + 1) (.int .u8 0) (.slice d1 m1 k1) (.slice d2 m2 k2) (Nat.lt_succ_self _)
      have hV3 := hV2 (w.heap.size + 2) VL (by rw [HVL.out]; exact isU_arr (l := [g1, if false = true then 1 else 0]) (by first | exact new_at _ _ (by simp) | exact (heap_alloc_old _ _ (by simp)).trans (new_at _ _ (by simp)) | exact (heap_alloc_old _ _ (by simp)).trans ((heap_alloc_old _ _ (by simp)).trans (new_at _ _ (by simp))) | exact heap_new _ _ | exact (heap_alloc_old _ _ (by simp)).trans (heap_new _ _) | exact (heap_alloc_old _ _ (by simp)).trans ((heap_alloc_old _ _ (by simp)).trans (heap_new _ _))) (by rw [u64_same HG0.out.1 HG0.out.2]; rfl) rfl (by have := HS1.out; first | omega | (simp; omega))) (w.heap.size + 1) (.int .u8 0) (.slice d1 m1 k1) (.slice d2 m2 k2) (Nat.lt_succ_self _)
      have HF : Hid (PxPost P A rb sb X w (.returned (.agg #[.int .u8 0, .slice d1 m1 k1, .slice d2 m2 k2])) (((w2.setCell ⟨w.heap.size + 1, 0, none⟩ (.int .u8 0)).setCell ⟨w.heap.size + 1, 1, none⟩ (.slice d1 m1 k1)).setCell ⟨w.heap.size + 1, 2, none⟩ (.slice d2 m2 k2))) := by
        rw [show X = _ from HQE.out]
        exact px_same (X := (⟨0, RL, VL⟩, ob s ws)) HH.out ((((Below.thr HB1.out hb2).setCell (p := ⟨w.heap.size + 1, 0, none⟩) (Nat.le_succ _) (.int .u8 0)).setCell (p := ⟨w.heap.size + 1, 1, none⟩) (Nat.le_succ _) (.slice d1 m1 k1)).setCell (p := ⟨w.heap.size + 1, 2, none⟩) (Nat.le_succ _) (.slice d2 m2 k2)) rfl hR3 hV3
      clear hb2 hR2 hV2 hR3 hV3 zr2
      go_wp2
      refine bodyPost_ret (v := .agg #[.int .u8 0, .slice d1 m1 k1, .slice d2 m2 k2]) ?_ rfl HF.out
      exact results_cell_row (by exact Tryz.results17) _ _ (w.heap.size + 1) _ _ _ _ (by rfl) (by exact HZ2.out) Tryz.underlying57 rfl (by kernel_rfl)
    · obtain ⟨RL, hRL⟩ : ∃ zz : List (Nat × Int), zz = [] := ⟨_, rfl⟩
      obtain ⟨VL, hVL⟩ : ∃ zz : List Int, zz = [g1, if true = true then 1 else 0] := ⟨_, rfl⟩
      have HQE : Hid (X = (⟨0, RL, VL⟩, ob s ws)) := by
        show X = _
        rw [hRL, hVL]
        exact (by rw [HXE.out, hXc])
      have HRL := hideIt hRL
      have HVL := hideIt hVL
      have HB1 := hideIt (Below.thr HB0.out hb1)
      have HS1 : Hid (w.heap.size + 2 ≤ w1.heap.size) := by show _ ≤ _; rw [← HSZ.out]; exact hb1.size
      have zr1 := (hb1.block _ (heap_lt ZR.out)).trans ZR.out
      have ZR1 := hideIt zr1
      clear hb1 zr1 ZR hRL hVL hXc
      go_wp2_with fail
      go_at_call 50
      refine (answer_ok_x (w1 := w1) (by (repeat first | exact Below.refl _ _ | exact alloc_below _ | (refine Below.setCell ?_ (by first | exact Nat.le_refl _ | exact Nat.le_succ _ | (simp; done) | (simp; omega)) _) | (refine Below.alloc ?_ (by first | exact Nat.le_refl _ | (simp; done) | (simp; omega)) _)))).mono ?_
      rintro e w2 ⟨d1, m1, k1, d2, m2, k2, rfl, hb2, hR2, hV2⟩
      have zr2 := (hb2.block _ (heap_lt ZR1.out)).trans ZR1.out
      obtain ⟨x0, x1, x2, f0, f1, f2⟩ := three_cells zr2
      have HZ2 := hideIt (three_set zr2 (.int .u8 0) (.slice d1 m1 k1) (.slice d2 m2 k2))
      have hR3 := hR2 (w.heap.size + 2) RL (by rw [HRL.out]; exact IsR.nil _ _) (w.heap.size + 1) (.int .u8 0) (.slice d1 m1 k1) (.slice d2 m2 k2) (Nat.lt_succ_self _)
      have hV3 := hV2 (w.heap.size + 2) VL (by rw [HVL.out]; exact isU_arr (l := [g1, if true = true then 1 else 0]) (by first | exact new_at _ _ (by simp) | exact (heap_alloc_old _ _ (by simp)).trans (new_at _ _ (by simp)) | exact (heap_alloc_old _ _ (by simp)).trans ((heap_alloc_old _ _ (by simp)).trans (new_at _ _ (by simp))) | exact heap_new _ _ | exact (heap_alloc_old _ _ (by simp)).trans (heap_new _ _) | exact (heap_alloc_old _ _ (by simp)).trans ((heap_alloc_old _ _ (by simp)).trans (heap_new _ _))) (by rw [u64_same HG0.out.1 HG0.out.2]; rfl) rfl (by have := HS1.out; first | omega | (simp; omega))) (w.heap.size + 1) (.int .u8 0) (.slice d1 m1 k1) (.slice d2 m2 k2) (Nat.lt_succ_self _)
      have HF : Hid (PxPost P A rb sb X w (.returned (.agg #[.int .u8 0, .slice d1 m1 k1, .slice d2 m2 k2])) (((w2.setCell ⟨w.heap.size + 1, 0, none⟩ (.int .u8 0)).setCell ⟨w.heap.size + 1, 1, none⟩ (.slice d1 m1 k1)).setCell ⟨w.heap.size + 1, 2, none⟩ (.slice d2 m2 k2))) := by
        rw [show X = _ from HQE.out]
        exact px_same (X := (⟨0, RL, VL⟩, ob s ws)) HH.out ((((Below.thr HB1.out hb2).setCell (p := ⟨w.heap.size + 1, 0, none⟩) (Nat.le_succ _) (.int .u8 0)).setCell (p := ⟨w.heap.size + 1, 1, none⟩) (Nat.le_succ _) (.slice d1 m1 k1)).setCell (p := ⟨w.heap.size + 1, 2, none⟩) (Nat.le_succ _) (.slice d2 m2 k2)) rfl hR3 hV3
      clear hb2 hR2 hV2 hR3 hV3 zr2
      go_wp2
      refine bodyPost_ret (v := .agg #[.int .u8 0, .slice d1 m1 k1, .slice d2 m2 k2]) ?_ rfl HF.out
      exact results_cell_row (by exact Tryz.results17) _ _ (w.heap.size + 1) _ _ _ _ (by rfl) (by exact HZ2.out) Tryz.underlying57 rfl (by kernel_rfl)
end
end Go.Proofs.Qxb6500847aGreatDoor.Os
