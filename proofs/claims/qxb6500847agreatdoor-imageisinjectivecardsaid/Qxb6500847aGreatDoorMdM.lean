/-
  The abstract model: generation.
-/
import Derived.Test.Qxb6500847aGreatDoorMdK
namespace Go.Proofs.Qxb6500847aGreatDoor.Os
open Go.RowKit FloorA
set_option maxRecDepth 100000
section
variable {w w' : World} {B : Nat} {wb : Nat → Nat} {M : Nat → En}
/-- The result lies in block R. -/
theorem MsP.finR {w3 : World} {R : Nat} {X : Rs} {r v : Value} (h : Md w B wb M) (b : Below w.heap.size w w3) (hR : w.heap.size ≤ R) (hc : X.code = 0) (hr : IsR (R + 1) w3 r X.refs) (hv : IsU (R + 1) w3 v X.vals) (x y z : Value) :
    MsP B wb M (X, M) w (.returned (.agg #[.int .u8 0, r, v])) (((w3.setCell ⟨R, 0, none⟩ x).setCell ⟨R, 1, none⟩ y).setCell ⟨R, 2, none⟩ z) := by
  have b3 := ((b.setCell (p := ⟨R, 0, none⟩) hR x).setCell (p := ⟨R, 1, none⟩) hR y).setCell (p := ⟨R, 2, none⟩) hR z
  rw [← hc]
  exact MsP.ask h b3 (Sq.mono (Sq.fin hr (Below.refl _ _) (Nat.lt_succ_self _) x y z) (by omega)) (Sq.mono (Sq.fin hv (Below.refl _ _) (Nat.lt_succ_self _) x y z) (by omega))
theorem MsP.badR {w3 : World} {R : Nat} {c : Int} {X : Rs × (Nat → En)} (h : Md w B wb M) (b : Below w.heap.size w w3) (hR : w.heap.size ≤ R) (hX : X = (Os.bad c, M)) (x y z : Value) : MsP B wb M X w (.returned (.agg #[.int .u8 c, .slice none 0 0, .slice none 0 0])) (((w3.setCell ⟨R, 0, none⟩ x).setCell ⟨R, 1, none⟩ y).setCell ⟨R, 2, none⟩ z) :=
  MsP.bad h (((b.setCell (p := ⟨R, 0, none⟩) hR x).setCell (p := ⟨R, 1, none⟩) hR y).setCell (p := ⟨R, 2, none⟩) hR z) hX
set_option maxHeartbeats 4000000 in
theorem generation_m (h : Md w B wb M) (hM : Mk M) (i : Nat) (h6 : i < 65536) :
    Calls Tryz.prog 81 #[.pointer (some ⟨B, 0, none⟩), .int .u16 (i : Int)] w (MsP B wb M (genX M i, M) w) := by
  have hb0 := alloc_below (w := w) (.cells #[.int .u8 0, .slice none 0 0, .slice none 0 0] 57)
  have hs0 : (w.alloc (.cells #[.int .u8 0, .slice none 0 0, .slice none 0 0] 57)).heap[w.heap.size]? = some (.cells #[.int .u8 0, .slice none 0 0, .slice none 0 0] 57 (0, 0)) := heap_new _ _
  have H0 := hideIt h
  have HM := hideIt (h.below hb0)
  have HB := hideIt hb0
  have HS := hideIt hs0
  obtain ⟨X, hX⟩ : ∃ X, X = (genX M i, M) := ⟨_, rfl⟩
  rw [← hX]
  have HX := hideIt hX
  have i6 : wrap64 (i : Int) = (i : Int) := by unfold wrap64; omega
  clear h hb0 hX
  by_cases hi : i < 320
  · have i3 : ¬ (i : Int) ≥ 320 := by omega
    have i4 : (i : Int) < 320 := by omega
    obtain ⟨gn, hgn, _, g2⟩ := hM.gen i hi
    have hgw : IntKind.u64.wrap (gn : Int) = (gn : Int) := u64_same (by omega) (by omega)
    have HL := hideIt (live_m HM.out hi)
    have z0 := HM.out.gen hi
    rw [hgn] at z0
    have hX2 : X = (⟨0, [], [(gn : Int), if (M i).typ ≠ 0 then 1 else 0]⟩, M) := by rw [HX.out]; unfold genX; rw [if_pos hi, hgn]
    have HX2 := hideIt hX2
    clear hX2 HX hgn hM hs0
    obtain ⟨W, hW⟩ : ∃ W, W = w.alloc (.cells #[.int .u8 0, .slice none 0 0, .slice none 0 0] 57) := ⟨_, rfl⟩
    by_cases ht : (M i).typ = 0
    · have hd : decide ((M i).typ ≠ 0) = false := by simp [ht]
      rw [hd] at HL
      have HX3 : Hid (X = (⟨0, [], [(gn : Int), 0]⟩, M)) := by show X = _; rw [HX2.out, if_neg (fun q => q ht)]
      clear HX2 hd ht
      go_enter Tryz.func81, Tryz.ntmps81
      go_upto_region 1 with fail
      rw [← hW] at HM HB HS HL z0 ⊢
      clear hW
      obtain ⟨r0, r1, r2, f0, f1, f2⟩ := three_cells ((heap_alloc_old W (.cells #[.int .u64 (gn : Int), .int .u64 0] 34) (heap_lt HS.out)).trans HS.out)
      have HZ := hideIt (three_set ((heap_alloc_old W (.cells #[.int .u64 (gn : Int), .int .u64 0] 34) (heap_lt HS.out)).trans HS.out) (.int .u8 0) (.slice none 0 0) (.slice (some ⟨W.heap.size, 0, none⟩) 2 2))
      have HF : Hid (MsP B wb M X w (.returned (.agg #[.int .u8 0, .slice none 0 0, .slice (some ⟨W.heap.size, 0, none⟩) 2 2])) ((((W.alloc (.cells #[.int .u64 (gn : Int), .int .u64 0] 34)).setCell ⟨w.heap.size, 0, none⟩ (.int .u8 0)).setCell ⟨w.heap.size, 1, none⟩ (.slice none 0 0)).setCell ⟨w.heap.size, 2, none⟩ (.slice (some ⟨W.heap.size, 0, none⟩) 2 2))) := by
        show MsP _ _ _ _ _ _ _
        rw [HX3.out]
        exact MsP.finR (X := ⟨0, [], [(gn : Int), 0]⟩) H0.out (Below.thr HB.out (alloc_below _)) (Nat.le_refl _) rfl (IsR.nil _ _) (isU_new (l := [(gn : Int), 0]) (heap_new _ _) (by have := heap_lt HS.out; omega)) (.int .u8 0) (.slice none 0 0) (.slice (some ⟨W.heap.size, 0, none⟩) 2 2)
      go_wp2_with (go_at_call 203; refine HL.out.mono ?_; rintro e w' ⟨rfl, hw'⟩; obtain rfl := hw'.symm)
      refine bodyPost_ret (v := .agg #[.int .u8 0, .slice none 0 0, .slice (some ⟨W.heap.size, 0, none⟩) 2 2]) ?_ rfl HF.out
      exact results_cell_row (by exact Tryz.results81) _ _ w.heap.size _ _ _ _ (by rfl) (by exact HZ.out) Tryz.underlying57 rfl (by kernel_rfl)
    · have hd : decide ((M i).typ ≠ 0) = true := by simp [ht]
      rw [hd] at HL
      have HX3 : Hid (X = (⟨0, [], [(gn : Int), 1]⟩, M)) := by show X = _; rw [HX2.out, if_pos ht]
      clear HX2 hd ht
      go_enter Tryz.func81, Tryz.ntmps81
      go_upto_region 1 with fail
      rw [← hW] at HM HB HS HL z0 ⊢
      clear hW
      obtain ⟨r0, r1, r2, f0, f1, f2⟩ := three_cells ((heap_alloc_old W (.cells #[.int .u64 (gn : Int), .int .u64 1] 34) (heap_lt HS.out)).trans HS.out)
      have HZ := hideIt (three_set ((heap_alloc_old W (.cells #[.int .u64 (gn : Int), .int .u64 1] 34) (heap_lt HS.out)).trans HS.out) (.int .u8 0) (.slice none 0 0) (.slice (some ⟨W.heap.size, 0, none⟩) 2 2))
      have HF : Hid (MsP B wb M X w (.returned (.agg #[.int .u8 0, .slice none 0 0, .slice (some ⟨W.heap.size, 0, none⟩) 2 2])) ((((W.alloc (.cells #[.int .u64 (gn : Int), .int .u64 1] 34)).setCell ⟨w.heap.size, 0, none⟩ (.int .u8 0)).setCell ⟨w.heap.size, 1, none⟩ (.slice none 0 0)).setCell ⟨w.heap.size, 2, none⟩ (.slice (some ⟨W.heap.size, 0, none⟩) 2 2))) := by
        show MsP _ _ _ _ _ _ _
        rw [HX3.out]
        exact MsP.finR (X := ⟨0, [], [(gn : Int), 1]⟩) H0.out (Below.thr HB.out (alloc_below _)) (Nat.le_refl _) rfl (IsR.nil _ _) (isU_new (l := [(gn : Int), 1]) (heap_new _ _) (by have := heap_lt HS.out; omega)) (.int .u8 0) (.slice none 0 0) (.slice (some ⟨W.heap.size, 0, none⟩) 2 2)
      go_wp2_with (go_at_call 203; refine HL.out.mono ?_; rintro e w' ⟨rfl, hw'⟩; obtain rfl := hw'.symm)
      refine bodyPost_ret (v := .agg #[.int .u8 0, .slice none 0 0, .slice (some ⟨W.heap.size, 0, none⟩) 2 2]) ?_ rfl HF.out
      exact results_cell_row (by exact Tryz.results81) _ _ w.heap.size _ _ _ _ (by rfl) (by exact HZ.out) Tryz.underlying57 rfl (by kernel_rfl)
  · have i3 : (i : Int) ≥ 320 := by omega
    have HX3 : Hid (X = (Os.bad 1, M)) := by show X = _; rw [HX.out]; unfold genX; rw [if_neg hi]
    obtain ⟨W, hW⟩ : ∃ W, W = w.alloc (.cells #[.int .u8 0, .slice none 0 0, .slice none 0 0] 57) := ⟨_, rfl⟩
    clear HX hM hs0
    go_enter Tryz.func81, Tryz.ntmps81
    go_upto_region 1 with fail
    rw [← hW] at HM HB HS ⊢
    clear hW
    go_wp2_with (go_at_call 90; refine (fail_m _ _).mono ?_; rintro e w3 ⟨rfl, hb3⟩; have hs3 := (hb3.block _ (heap_lt HS.out)).trans HS.out; obtain ⟨q0, q1, q2, k0, k1, k2⟩ := three_cells hs3; have HZ := hideIt (three_set hs3 (.int .u8 1) (.slice none 0 0) (.slice none 0 0)); have HF := hideIt (MsP.badR H0.out (Below.thr HB.out hb3) (Nat.le_refl _) HX3.out (.int .u8 1) (.slice none 0 0) (.slice none 0 0)); clear hb3 hs3)
    refine bodyPost_ret (v := .agg #[.int .u8 1, .slice none 0 0, .slice none 0 0]) ?_ rfl HF.out
    exact results_cell_row (by exact Tryz.results81) _ _ w.heap.size _ _ _ _ (by rfl) (by exact HZ.out) Tryz.underlying57 rfl (by kernel_rfl)
end
end Go.Proofs.Qxb6500847aGreatDoor.Os
