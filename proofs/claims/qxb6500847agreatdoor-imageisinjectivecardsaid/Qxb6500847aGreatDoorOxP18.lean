/-
  play, exactly: Reload.
-/
import Derived.Test.Qxb6500847aGreatDoorOxP
import Derived.Test.Qxb6500847aGreatDoorOxDo
import Derived.Test.Qxb6500847aGreatDoorOsGe
import Derived.Test.Qxb6500847aGreatDoorOxPz
namespace Go.Proofs.Qxb6500847aGreatDoor.Os
open Go.RowKit FloorA
set_option maxRecDepth 100000
section
variable {P A : Nat} {rb sb : Nat → Nat} {s : Av} {tl : Nat → List Int} {ws : Nat → Nat → Nat → Int} {w : World} {L : Nat → List Nat} {n : Nat}
/-- The decoded arena takes the place of the old one. -/
theorem px_reload {w2 w3 : World} {R W0 A2 : Nat} {rb2 sb2 : Nat → Nat} {s2 : Av} {tl2 : Nat → List Int} {ws2 : Nat → Nat → Nat → Int} {L2 : Nat → List Nat} {n2 : Nat} (h : Hx P A rb sb s tl ws L n w) (b2 : Below w.heap.size w w2) (hM : Ms w2 A2 rb2 sb2 s2 tl2 ws2) (hI : IV s2 tl2 L2 n2) (hX : IX s2 tl2 L2 n2) (hW : Wr ws2) (hS : ob s2 ws2 = ob s ws) (hz : ∀ b, Tz A2 rb2 sb2 b → W0 ≤ b) (hW0 : R < W0)
    (b3 : Below (w2.setCell ⟨P, 0, none⟩ (.pointer (some ⟨A2, 0, none⟩))).heap.size (w2.setCell ⟨P, 0, none⟩ (.pointer (some ⟨A2, 0, none⟩))) w3) (hR : w.heap.size ≤ R) (x y z : Value) :
    PxPost P A rb sb (⟨0, [], []⟩, ob s ws) w (.returned (.agg #[.int .u8 0, .slice none 0 0, .slice none 0 0])) (((w3.setCell ⟨R, 0, none⟩ x).setCell ⟨R, 1, none⟩ y).setCell ⟨R, 2, none⟩ z) := by
  have hP := h.plt
  have h7 := h.p7
  have h2 := h.toHs.below b2
  have pz : ¬ Tz A2 rb2 sb2 P := fun q => absurd (hz P q) (by omega)
  have e1 : Ext w2.heap.size (fun b => b = P) w2 (w2.setCell ⟨P, 0, none⟩ (.pointer (some ⟨A2, 0, none⟩))) := (Ext.refl w2.heap.size (fun b => b = P) w2).setCell (p := ⟨P, 0, none⟩) (Or.inr rfl) _
  have g1 : Hs P A2 rb2 sb2 s2 tl2 ws2 L2 n2 (w2.setCell ⟨P, 0, none⟩ (.pointer (some ⟨A2, 0, none⟩))) :=
    ⟨hM.ext e1 (fun b hb q => pz (by rw [← q]; exact hb)), hI, hW, h2.gl.ext e1 (fun b q => by rw [q]; exact h7), set_same h2.pc, (World.frozen?_setCell ..).trans h2.pf, pz, h7, fun b hb => by have := hz b hb; have := h.gl.sz; omega⟩
  have g2 := g1.below b3
  have e3 : Ext w3.heap.size (fun b => b = R) w3 (((w3.setCell ⟨R, 0, none⟩ x).setCell ⟨R, 1, none⟩ y).setCell ⟨R, 2, none⟩ z) :=
    (((Ext.refl w3.heap.size (fun b => b = R) w3).setCell (p := ⟨R, 0, none⟩) (Or.inr rfl) _).setCell (p := ⟨R, 1, none⟩) (Or.inr rfl) _).setCell (p := ⟨R, 2, none⟩) (Or.inr rfl) _
  refine ⟨.slice none 0 0, .slice none 0 0, A2, rb2, sb2, s2, tl2, ws2, L2, n2, rfl, IsR.nil _ _, IsU.nil _ _, ⟨g2.ext e3 (fun b hb => by subst hb; exact ⟨fun q => absurd (hz _ q) (by omega), (h.toHs.nR hR).2⟩), hX⟩, hS, ?_, Or.inr ⟨fun b hb => by have := hz b hb; omega, rfl, rfl⟩, fun q => absurd rfl q⟩
  have f1 : Ext w.heap.size (fun b => Tz A rb sb b ∨ b = P) w w2 := Ext.of_below b2 _
  have f2 := f1.setCell (p := ⟨P, 0, none⟩) (Or.inr (Or.inr rfl)) (.pointer (some ⟨A2, 0, none⟩))
  have f3 := f2.andThen b3 f2.size
  exact ((f3.setCell (p := ⟨R, 0, none⟩) (Or.inl hR) _).setCell (p := ⟨R, 1, none⟩) (Or.inl hR) _).setCell (p := ⟨R, 2, none⟩) (Or.inl hR) _
set_option maxHeartbeats 8000000 in
theorem plx18 (h : Hx P A rb sb s tl ws L n w) (i g j gg t bt ct fd a b : Nat) (wv : Value) :
    Calls Tryz.prog 17 #[.pointer (some ⟨P, 0, none⟩), .agg (opA 18 i g j gg t bt ct fd a b wv)] w (PxPost P A rb sb (⟨0, [], []⟩, ob s ws) w) := by
  obtain ⟨X, hX⟩ : ∃ X : Rs × (Nat → En), X = (⟨0, [], []⟩, ob s ws) := ⟨_, rfl⟩
  rw [← hX]
  have HXE := hideIt hX
  clear hX
  have b0 := plW_below 18 i g j gg t bt ct fd a b wv w
  have zo := plW_op 18 i g j gg t bt ct fd a b wv w
  have zr := plW_rs 18 i g j gg t bt ct fd a b wv w
  have HH := hideIt h
  have HB0 := hideIt b0
  have H0 := hideIt (h.below b0)
  have pc := (h.below b0).pc
  have sz0 : (plW 18 i g j gg t bt ct fd a b wv w).heap.size = w.heap.size + 2 := by unfold plW; rw [Deep.nblk_alloc, Deep.nblk_alloc]
  have z0 : (plW 18 i g j gg t bt ct fd a b wv w).cell? ⟨w.heap.size, 0, none⟩ = some (.int .u8 18) := box_cell zo 0
  have ZR := hideIt zr
  have HSZ := hideIt sz0
  clear h zo zr b0 sz0
  unfold opA
  go_enter Tryz.func17, Tryz.ntmps17
  go_upto_region 1 with fail
  rw [show (w.alloc (.cells #[.int .u8 18, .int .u16 (i : Int), .int .u32 (g : Int), .int .u16 (j : Int), .int .u32 (gg : Int), .int .u8 (t : Int), .int .u8 (bt : Int), .int .u16 (ct : Int), .int .u16 (fd : Int), .int .u64 (a : Int), .int .u64 (b : Int), wv] 37)).alloc (.cells #[.int .u8 0, .slice none 0 0, .slice none 0 0] 57) = plW 18 i g j gg t bt ct fd a b wv w from rfl]
  generalize plW 18 i g j gg t bt ct fd a b wv w = w0 at *
  go_wp2_with fail
  have HPC := hideIt pc
  clear pc z0
  go_at_call 13
  refine (encode_walk H0.out.ms H0.out.iv H0.out.wr H0.out.gl.gd H0.out.gl.gl H0.out.gl.kd H0.out.gl.kl).mono ?_
  rintro e w1 ⟨bv, rfl, hown, hb1⟩
  obtain ⟨q, cap, rfl, hcap, hcm, _, hq2, hby⟩ := Own.bytes hown (imgB_range s ws) (imgB_ne s ws)
  have H1 := hideIt (H0.out.below hb1)
  have HDC := hideIt (Decode_x (w := w1) H1.out.iv H1.out.ix H1.out.wr hby hcap hcm hq2 H1.out.gl.kd H1.out.gl.kl)
  have HB1 := hideIt (Below.thr HB0.out hb1)
  have ZR1 := hideIt ((hb1.block _ (heap_lt ZR.out)).trans ZR.out)
  have HS9 := hideIt (Nat.lt_of_lt_of_le (heap_lt ZR.out) hb1.size)
  clear hown hb1 hcap hcm hq2 hby HPC ZR
  go_wp2_with fail
  go_at_call 29
  refine HDC.out.mono ?_
  rintro e w2 ⟨hb2, hh⟩
  have HB2 := hideIt (Below.thr HB1.out hb2)
  have H2 := hideIt (H1.out.below hb2)
  have ZR2 := hideIt ((hb2.block _ (heap_lt ZR1.out)).trans ZR1.out)
  clear hb2 HDC
  obtain ⟨A2, rb2, sb2, s2, tl2, ws2, L2, n2, rfl, hM2, hI2, hX2, hW2, hS2, _, hz2⟩ := hh
  have pc := H2.out.pc
  have pf := H2.out.pf
  have HM2 := hideIt hM2
  have HI2 := hideIt hI2
  have HX2 := hideIt hX2
  have HW2 : Hid (Wr ws2) := hW2
  have HS2 : Hid (ob s2 ws2 = ob s ws) := hS2
  have HZ2 := hideIt hz2
  have zr3 : (w2.setCell ⟨P, 0, none⟩ (.pointer (some ⟨A2, 0, none⟩))).heap[w.heap.size + 1]? = some (.cells #[.int .u8 0, .slice none 0 0, .slice none 0 0] 57 (0, 0)) := (Below.heap_setCell w2 _ _ _ (by have := HH.out.plt; show w.heap.size + 1 ≠ P; omega)).trans ZR2.out
  have ZR3 := hideIt zr3
  clear hM2 hI2 hX2 hW2 hS2 hz2 zr3 ZR2
  go_wp2_with fail
  go_at_call 50
  refine (answer_ok none none 0 0 0 0 _).mono ?_
  rintro e w3 ⟨rfl, hb3⟩
  have zr2 := (hb3.block _ (heap_lt ZR3.out)).trans ZR3.out
  obtain ⟨x0, x1, x2, f0, f1, f2⟩ := three_cells zr2
  have HZS := hideIt (three_set zr2 (.int .u8 0) (.slice none 0 0) (.slice none 0 0))
  have HF : Hid (PxPost P A rb sb X w (.returned (.agg #[.int .u8 0, .slice none 0 0, .slice none 0 0])) (((w3.setCell ⟨w.heap.size + 1, 0, none⟩ (.int .u8 0)).setCell ⟨w.heap.size + 1, 1, none⟩ (.slice none 0 0)).setCell ⟨w.heap.size + 1, 2, none⟩ (.slice none 0 0))) := by
    rw [show X = _ from HXE.out]
    exact px_reload (R := w.heap.size + 1) HH.out HB2.out HM2.out HI2.out HX2.out HW2.out HS2.out HZ2.out HS9.out hb3 (Nat.le_succ _) (.int .u8 0) (.slice none 0 0) (.slice none 0 0)
  clear hb3 zr2 pc pf
  go_wp2
  refine bodyPost_ret (v := .agg #[.int .u8 0, .slice none 0 0, .slice none 0 0]) ?_ rfl HF.out
  exact results_cell_row (by exact Tryz.results17) _ _ (w.heap.size + 1) _ _ _ _ (by rfl) (by exact HZS.out) Tryz.underlying57 rfl (by kernel_rfl)
end
end Go.Proofs.Qxb6500847aGreatDoor.Os
