/-
  play, exactly: Store, typed.
-/
import Derived.Test.Qxb6500847aGreatDoorOxP
import Derived.Test.Qxb6500847aGreatDoorOsTh
import Derived.Test.Qxb6500847aGreatDoorOsPg
import Derived.Test.Qxb6500847aGreatDoorOsRe
namespace Go.Proofs.Qxb6500847aGreatDoor.Os
open Go.RowKit FloorA
set_option maxRecDepth 100000
section
variable {P A : Nat} {rb sb : Nat → Nat} {s : Av} {tl : Nat → List Int} {ws : Nat → Nat → Nat → Int} {w : World} {L : Nat → List Nat} {n : Nat}
set_option maxHeartbeats 8000000 in
theorem plx13a (h : Hx P A rb sb s tl ws L n w) (i g j gg t bt ct fd a b : Nat) (wv : Value) (hfd : fd < 65536) (ha : a < 18446744073709551616) (hb2 : (b : Int) % 2 = 1) :
    Calls Tryz.prog 17 #[.pointer (some ⟨P, 0, none⟩), .agg (opA 13 i g j gg t bt ct fd a b wv)] w (PxPost P A rb sb (⟨(stoX (ob s ws) i (g : Int) fd (a : Int)).1, [], []⟩, (stoX (ob s ws) i (g : Int) fd (a : Int)).2) w) := by
  obtain ⟨X, hX⟩ : ∃ X : Rs × (Nat → En), X = (⟨(stoX (ob s ws) i (g : Int) fd (a : Int)).1, [], []⟩, (stoX (ob s ws) i (g : Int) fd (a : Int)).2) := ⟨_, rfl⟩
  rw [← hX]
  have HXE := hideIt hX
  clear hX
  have b0 := plW_below 13 i g j gg t bt ct fd a b wv w
  have zo := plW_op 13 i g j gg t bt ct fd a b wv w
  have zr := plW_rs 13 i g j gg t bt ct fd a b wv w
  have HH := hideIt h
  have HB0 := hideIt b0
  have H0 := hideIt (h.below b0)
  have pc := (h.below b0).pc
  have sz0 : (plW 13 i g j gg t bt ct fd a b wv w).heap.size = w.heap.size + 2 := by unfold plW; rw [Deep.nblk_alloc, Deep.nblk_alloc]
  have z0 : (plW 13 i g j gg t bt ct fd a b wv w).cell? ⟨w.heap.size, 0, none⟩ = some (.int .u8 13) := box_cell zo 0
  have z1 : (plW 13 i g j gg t bt ct fd a b wv w).cell? ⟨w.heap.size, 1, none⟩ = some (.int .u16 (i : Int)) := box_cell zo 1
  have z2 : (plW 13 i g j gg t bt ct fd a b wv w).cell? ⟨w.heap.size, 2, none⟩ = some (.int .u32 (g : Int)) := box_cell zo 2
  have z8 : (plW 13 i g j gg t bt ct fd a b wv w).cell? ⟨w.heap.size, 8, none⟩ = some (.int .u16 (fd : Int)) := box_cell zo 8
  have z9 : (plW 13 i g j gg t bt ct fd a b wv w).cell? ⟨w.heap.size, 9, none⟩ = some (.int .u64 (a : Int)) := box_cell zo 9
  have z10 : (plW 13 i g j gg t bt ct fd a b wv w).cell? ⟨w.heap.size, 10, none⟩ = some (.int .u64 (b : Int)) := box_cell zo 10
  have ZR := hideIt zr
  have HSZ := hideIt sz0
  clear h zo zr b0 sz0
  unfold opA
  go_enter Tryz.func17, Tryz.ntmps17
  go_upto_region 1 with fail
  rw [show (w.alloc (.cells #[.int .u8 13, .int .u16 (i : Int), .int .u32 (g : Int), .int .u16 (j : Int), .int .u32 (gg : Int), .int .u8 (t : Int), .int .u8 (bt : Int), .int .u16 (ct : Int), .int .u16 (fd : Int), .int .u64 (a : Int), .int .u64 (b : Int), wv] 37)).alloc (.cells #[.int .u8 0, .slice none 0 0, .slice none 0 0] 57) = plW 13 i g j gg t bt ct fd a b wv w from rfl]
  generalize plW 13 i g j gg t bt ct fd a b wv w = w0 at *
  go_wp2_with fail
  go_at_call 61
  refine (ts_walk H0.out.ms H0.out.iv H0.out.wr H0.out.gl.kd H0.out.gl.kl i (g : Int) fd a ha).mono ?_
  rintro e w9 hh
  rcases hh with ⟨rfl, hb9⟩ | ⟨vv, rfl, hh⟩
  · have H09 := hideIt (H0.out.below hb9)
    have ZR09 := hideIt ((hb9.block _ (heap_lt ZR.out)).trans ZR.out)
    have HB09 := hideIt (Below.thr HB0.out hb9)
    have HSZ9 : Hid (w.heap.size + 2 ≤ w9.heap.size) := by show _ ≤ _; rw [← HSZ.out]; exact hb9.size
    have y0 := (hb9.cell (p := ⟨w.heap.size, 0, none⟩) (cell_lt z0)).trans z0
    have y1 := (hb9.cell (p := ⟨w.heap.size, 1, none⟩) (cell_lt z1)).trans z1
    have y2 := (hb9.cell (p := ⟨w.heap.size, 2, none⟩) (cell_lt z2)).trans z2
    have y8 := (hb9.cell (p := ⟨w.heap.size, 8, none⟩) (cell_lt z8)).trans z8
    have y9 := (hb9.cell (p := ⟨w.heap.size, 9, none⟩) (cell_lt z9)).trans z9
    clear hb9 z0 z1 z2 z8 z9 z10 pc H0 HB0 ZR
    have H0 := H09
    have ZR := ZR09
    have HB0 := HB09
    clear H09 ZR09 HB09 HSZ
    go_wp2_with fail
    go_at_call 62
    refine (Store_walk H0.out.ms H0.out.iv H0.out.wr H0.out.gl.kd H0.out.gl.kl i (g : Int) fd a hfd ha).mono ?_
    intro e w1 hh
    obtain ⟨vv, rfl⟩ := hh.ret
    rcases hh with ⟨v, e1, ⟨hv, hc, hb1⟩, hs2⟩ | ⟨hc0, e1, ws1, hm, he, hw, hob⟩
    · obtain rfl := Ending.returned.inj e1
      obtain ⟨code, hcd⟩ : ∃ c, c = (stoX (ob s ws) i (g : Int) fd (a : Int)).1 := ⟨_, rfl⟩
      rw [← hcd] at hv hc
      have HB1 := hideIt (Below.thr HB0.out hb1)
      have HG1 := hideIt (H0.out.gl.below hb1)
      have HV1 := hideIt hv
      have HQE : Hid (X = (bad code, ob s ws)) := by rw [HXE.out, hcd]; exact Prod.ext rfl hs2
      have zr1 := (hb1.block _ (heap_lt ZR.out)).trans ZR.out
      have ZR1 := hideIt zr1
      obtain ⟨be, rfl, _⟩ := hv
      clear hb1 zr1 ZR hcd hs2 e1
      go_wp2_with fail
      go_at_call 50
      refine (answer_err_at HG1.out HV1.out (by (repeat first | exact Below.refl _ _ | exact alloc_below _ | (refine Below.setCell ?_ (by first | exact Nat.le_refl _ | exact Nat.le_succ _ | (simp; done) | (simp; omega)) _) | (refine Below.alloc ?_ (by first | exact Nat.le_refl _ | (simp; done) | (simp; omega)) _)))).mono ?_
      rintro e w2 ⟨rfl, hb2⟩
      have zr2 := (hb2.block _ (heap_lt ZR1.out)).trans ZR1.out
      obtain ⟨x0, x1, x2, f0, f1, f2⟩ := three_cells zr2
      have HZ2 := hideIt (three_set zr2 (.int .u8 code) (.slice none 0 0) (.slice none 0 0))
      have HF := hideIt (px_err HH.out ((((Below.thr HB1.out hb2).setCell (p := ⟨w.heap.size + 1, 0, none⟩) (Nat.le_succ _) (.int .u8 code)).setCell (p := ⟨w.heap.size + 1, 1, none⟩) (Nat.le_succ _) (.slice none 0 0)).setCell (p := ⟨w.heap.size + 1, 2, none⟩) (Nat.le_succ _) (.slice none 0 0)) HQE.out)
      clear hb2 zr2
      go_wp2
      refine bodyPost_ret (v := .agg #[.int .u8 code, .slice none 0 0, .slice none 0 0]) ?_ rfl HF.out
      exact results_cell_row (by exact Tryz.results17) _ _ (w.heap.size + 1) _ _ _ _ (by rfl) (by exact HZ2.out) Tryz.underlying57 rfl (by kernel_rfl)
    · obtain rfl := Ending.returned.inj e1
      obtain ⟨M, hM⟩ : ∃ M, M = (stoX (ob s ws) i (g : Int) fd (a : Int)).2 := ⟨_, rfl⟩
      have hsu : SuX A rb sb M w9 w1 := ⟨s, tl, ws1, L, n, hm, he, H0.out.iv, H0.out.ix, hw, by rw [hM]; exact hob⟩
      clear hm he hw hob e1
      obtain ⟨RL, hRL⟩ : ∃ l : List (Nat × Int), l = [] := ⟨_, rfl⟩
      obtain ⟨VL, hVL⟩ : ∃ l : List Int, l = [] := ⟨_, rfl⟩
      have HQE : Hid (X = (⟨0, RL, VL⟩, M)) := by
        show X = _
        rw [hRL, hVL]
        exact (by rw [HXE.out, hc0, hM])
      have HRL := hideIt hRL
      have HVL := hideIt hVL
      have HSU : Hid (SuX A rb sb M w9 w1) := hsu
      obtain ⟨s1, tl1, ws1, L1, n1, hm, he, hi, hx, hw, hob⟩ := hsu
      have HS1 : Hid (w.heap.size + 2 ≤ w1.heap.size) := by show _ ≤ _; exact Nat.le_trans HSZ9.out he.size
      have zr1 := (he.block (w.heap.size + 1) (heap_lt ZR.out) (HH.out.toHs.nR (Nat.le_succ _)).1).trans ZR.out
      have ZR1 := hideIt zr1
      clear hm hi hw he hx hob zr1 ZR hRL hVL hM hc0
      go_wp2_with fail
      go_at_call 50
      refine (answer_ok_x (w1 := w1) (by (repeat first | exact Below.refl _ _ | exact alloc_below _ | (refine Below.setCell ?_ (by first | exact Nat.le_refl _ | exact Nat.le_succ _ | (simp; done) | (simp; omega)) _) | (refine Below.alloc ?_ (by first | exact Nat.le_refl _ | (simp; done) | (simp; omega)) _)))).mono ?_
      rintro e w2 ⟨d1, m1, k1, d2, m2, k2, rfl, hb2, hR2, hV2⟩
      have zr2 := (hb2.block _ (heap_lt ZR1.out)).trans ZR1.out
      obtain ⟨x0, x1, x2, f0, f1, f2⟩ := three_cells zr2
      have HZ2 := hideIt (three_set zr2 (.int .u8 0) (.slice d1 m1 k1) (.slice d2 m2 k2))
      have hR3 := hR2 (w.heap.size + 2) RL (by rw [HRL.out]; exact IsR.nil _ _) (w.heap.size + 1) (.int .u8 0) (.slice d1 m1 k1) (.slice d2 m2 k2) (Nat.lt_succ_self _)
      have hV3 := hV2 (w.heap.size + 2) VL (by rw [HVL.out]; exact IsU.nil _ _) (w.heap.size + 1) (.int .u8 0) (.slice d1 m1 k1) (.slice d2 m2 k2) (Nat.lt_succ_self _)
      have HF : Hid (PxPost P A rb sb X w (.returned (.agg #[.int .u8 0, .slice d1 m1 k1, .slice d2 m2 k2])) (((w2.setCell ⟨w.heap.size + 1, 0, none⟩ (.int .u8 0)).setCell ⟨w.heap.size + 1, 1, none⟩ (.slice d1 m1 k1)).setCell ⟨w.heap.size + 1, 2, none⟩ (.slice d2 m2 k2))) := by
        rw [show X = _ from HQE.out]
        exact px_suc (X := (⟨0, RL, VL⟩, M)) (R := w.heap.size + 1) HH.out HB0.out HSU.out hb2 (Nat.le_succ _) (.int .u8 0) (.slice d1 m1 k1) (.slice d2 m2 k2) rfl hR3 hV3
      clear hb2 hR2 hV2 hR3 hV3 zr2
      go_wp2
      refine bodyPost_ret (v := .agg #[.int .u8 0, .slice d1 m1 k1, .slice d2 m2 k2]) ?_ rfl HF.out
      exact results_cell_row (by exact Tryz.results17) _ _ (w.heap.size + 1) _ _ _ _ (by rfl) (by exact HZ2.out) Tryz.underlying57 rfl (by kernel_rfl)
  · have w1e : ∃ w1, w1 = w9 := ⟨_, rfl⟩
    obtain ⟨w1, hw19⟩ := w1e
    subst hw19
    rcases hh with ⟨v, e1, ⟨hv, hc, hb1⟩, hs2⟩ | ⟨hc0, e1, ws1, hm, he, hw, hob⟩
    · obtain rfl := Ending.returned.inj e1
      obtain ⟨code, hcd⟩ : ∃ c, c = (stoX (ob s ws) i (g : Int) fd (a : Int)).1 := ⟨_, rfl⟩
      rw [← hcd] at hv hc
      have HB1 := hideIt (Below.thr HB0.out hb1)
      have HG1 := hideIt (H0.out.gl.below hb1)
      have HV1 := hideIt hv
      have HQE : Hid (X = (bad code, ob s ws)) := by rw [HXE.out, hcd]; exact Prod.ext rfl hs2
      have zr1 := (hb1.block _ (heap_lt ZR.out)).trans ZR.out
      have ZR1 := hideIt zr1
      obtain ⟨be, rfl, _⟩ := hv
      clear hb1 zr1 ZR hcd hs2 e1
      go_wp2_with fail
      go_at_call 50
      refine (answer_err_at HG1.out HV1.out (by (repeat first | exact Below.refl _ _ | exact alloc_below _ | (refine Below.setCell ?_ (by first | exact Nat.le_refl _ | exact Nat.le_succ _ | (simp; done) | (simp; omega)) _) | (refine Below.alloc ?_ (by first | exact Nat.le_refl _ | (simp; done) | (simp; omega)) _)))).mono ?_
      rintro e w2 ⟨rfl, hb2⟩
      have zr2 := (hb2.block _ (heap_lt ZR1.out)).trans ZR1.out
      obtain ⟨x0, x1, x2, f0, f1, f2⟩ := three_cells zr2
      have HZ2 := hideIt (three_set zr2 (.int .u8 code) (.slice none 0 0) (.slice none 0 0))
      have HF := hideIt (px_err HH.out ((((Below.thr HB1.out hb2).setCell (p := ⟨w.heap.size + 1, 0, none⟩) (Nat.le_succ _) (.int .u8 code)).setCell (p := ⟨w.heap.size + 1, 1, none⟩) (Nat.le_succ _) (.slice none 0 0)).setCell (p := ⟨w.heap.size + 1, 2, none⟩) (Nat.le_succ _) (.slice none 0 0)) HQE.out)
      clear hb2 zr2
      go_wp2
      refine bodyPost_ret (v := .agg #[.int .u8 code, .slice none 0 0, .slice none 0 0]) ?_ rfl HF.out
      exact results_cell_row (by exact Tryz.results17) _ _ (w.heap.size + 1) _ _ _ _ (by rfl) (by exact HZ2.out) Tryz.underlying57 rfl (by kernel_rfl)
    · obtain rfl := Ending.returned.inj e1
      obtain ⟨M, hM⟩ : ∃ M, M = (stoX (ob s ws) i (g : Int) fd (a : Int)).2 := ⟨_, rfl⟩
      have hsu : SuX A rb sb M w0 w1 := ⟨s, tl, ws1, L, n, hm, he, H0.out.iv, H0.out.ix, hw, by rw [hM]; exact hob⟩
      clear hm he hw hob e1
      obtain ⟨RL, hRL⟩ : ∃ l : List (Nat × Int), l = [] := ⟨_, rfl⟩
      obtain ⟨VL, hVL⟩ : ∃ l : List Int, l = [] := ⟨_, rfl⟩
      have HQE : Hid (X = (⟨0, RL, VL⟩, M)) := by
        show X = _
        rw [hRL, hVL]
        exact (by rw [HXE.out, hc0, hM])
      have HRL := hideIt hRL
      have HVL := hideIt hVL
      have HSU : Hid (SuX A rb sb M w0 w1) := hsu
      obtain ⟨s1, tl1, ws1, L1, n1, hm, he, hi, hx, hw, hob⟩ := hsu
      have HS1 : Hid (w.heap.size + 2 ≤ w1.heap.size) := by show _ ≤ _; rw [← HSZ.out]; exact he.size
      have zr1 := (he.block (w.heap.size + 1) (heap_lt ZR.out) (HH.out.toHs.nR (Nat.le_succ _)).1).trans ZR.out
      have ZR1 := hideIt zr1
      clear hm hi hw he hx hob zr1 ZR hRL hVL hM hc0
      go_wp2_with fail
      go_at_call 50
      refine (answer_ok_x (w1 := w1) (by (repeat first | exact Below.refl _ _ | exact alloc_below _ | (refine Below.setCell ?_ (by first | exact Nat.le_refl _ | exact Nat.le_succ _ | (simp; done) | (simp; omega)) _) | (refine Below.alloc ?_ (by first | exact Nat.le_refl _ | (simp; done) | (simp; omega)) _)))).mono ?_
      rintro e w2 ⟨d1, m1, k1, d2, m2, k2, rfl, hb2, hR2, hV2⟩
      have zr2 := (hb2.block _ (heap_lt ZR1.out)).trans ZR1.out
      obtain ⟨x0, x1, x2, f0, f1, f2⟩ := three_cells zr2
      have HZ2 := hideIt (three_set zr2 (.int .u8 0) (.slice d1 m1 k1) (.slice d2 m2 k2))
      have hR3 := hR2 (w.heap.size + 2) RL (by rw [HRL.out]; exact IsR.nil _ _) (w.heap.size + 1) (.int .u8 0) (.slice d1 m1 k1) (.slice d2 m2 k2) (Nat.lt_succ_self _)
      have hV3 := hV2 (w.heap.size + 2) VL (by rw [HVL.out]; exact IsU.nil _ _) (w.heap.size + 1) (.int .u8 0) (.slice d1 m1 k1) (.slice d2 m2 k2) (Nat.lt_succ_self _)
      have HF : Hid (PxPost P A rb sb X w (.returned (.agg #[.int .u8 0, .slice d1 m1 k1, .slice d2 m2 k2])) (((w2.setCell ⟨w.heap.size + 1, 0, none⟩ (.int .u8 0)).setCell ⟨w.heap.size + 1, 1, none⟩ (.slice d1 m1 k1)).setCell ⟨w.heap.size + 1, 2, none⟩ (.slice d2 m2 k2))) := by
        rw [show X = _ from HQE.out]
        exact px_suc (X := (⟨0, RL, VL⟩, M)) (R := w.heap.size + 1) HH.out HB0.out HSU.out hb2 (Nat.le_succ _) (.int .u8 0) (.slice d1 m1 k1) (.slice d2 m2 k2) rfl hR3 hV3
      clear hb2 hR2 hV2 hR3 hV3 zr2
      go_wp2
      refine bodyPost_ret (v := .agg #[.int .u8 0, .slice d1 m1 k1, .slice d2 m2 k2]) ?_ rfl HF.out
      exact results_cell_row (by exact Tryz.results17) _ _ (w.heap.size + 1) _ _ _ _ (by rfl) (by exact HZ2.out) Tryz.underlying57 rfl (by kernel_rfl)
end
end Go.Proofs.Qxb6500847aGreatDoor.Os
