/-
  The abstract model: clear.
-/
import Derived.Test.Qxb6500847aGreatDoorMdJ
import Derived.Test.Qxb6500847aGreatDoorMdW
namespace Go.Proofs.Qxb6500847aGreatDoor.Os
open Go.RowKit FloorA
set_option maxRecDepth 100000
section
variable {w w' : World} {B : Nat} {wb : Nat → Nat} {M : Nat → En}
set_option maxHeartbeats 4000000 in
theorem clear_m (h : Md w B wb M) (hM : Mk M) (i : Nat) (h6 : i < 65536) (g : Int) :
    Calls Tryz.prog 86 #[.pointer (some ⟨B, 0, none⟩), .agg #[.int .u16 (i : Int), .int .u32 g]] w (MsP B wb M (cX (clrX M i g)) w) := by
  have hb0 := stW_below i g w
  obtain ⟨x0, x1, _, _⟩ := two_cells (stW_r i g w)
  have HR := hideIt (stW_r i g w)
  have HS := hideIt (stW_s i g w)
  have H0 := hideIt h
  have HM := hideIt (h.below hb0)
  have HMk := hideIt hM
  have HB := hideIt hb0
  have HC := hideIt (check_m HM.out i h6 g)
  obtain ⟨X, hX⟩ : ∃ X, X = (cX (clrX M i g)) := ⟨_, rfl⟩
  rw [← hX]
  have HX := hideIt hX
  clear h hb0 hM hX
  by_cases hc : chk M i g = 0
  · obtain ⟨hi, _, _, _⟩ := chk_lt hc
    have i3 : (i : Int) < 320 := by omega
    rw [hc] at HC
    have HCK : Hid (chk M i g = 0) := hc
    have i6 : wrap64 (i : Int) = (i : Int) := by unfold wrap64; omega
    clear hc
    go_enter Tryz.func86, Tryz.ntmps86
    go_upto_region 1 with fail
    rw [show (w.alloc (.cells #[.int .u16 (i : Int), .int .u32 g] 32)).alloc (.cells #[.int .u8 0, .slice none 0 0, .slice none 0 0] 57) = stW i g w from rfl]
    generalize stW i g w = w0 at *
    go_wp2_with fail
    go_at_call 211
    refine HC.out.mono ?_
    rintro e w1 ⟨rfl, hb1⟩
    have hr1 := (hb1.block _ (heap_lt HR.out)).trans HR.out
    obtain ⟨y0, y1, _, _⟩ := two_cells hr1
    have HB1 := hideIt (Below.thr HB.out hb1)
    have HM1 := hideIt (HM.out.below hb1)
    have HS1 := hideIt ((hb1.block _ (heap_lt HS.out)).trans HS.out)
    have HR1 := hideIt hr1
    clear hb1 hr1 x0 x1 HC HM HS HR HB
    obtain ⟨sv, hsv, hd⟩ := HM1.out.wrd i hi
    have hwl : (M i).wds.length ≤ 112 := HMk.out.wlen i hi
    have HX3 : Hid (X = (⟨0, [], []⟩, updM M i { M i with wds := List.replicate (M i).wds.length 0 })) := by show X = _; rw [HX.out]; unfold clrX cX; rw [if_neg (by rw [HCK.out]; simp)]
    obtain ⟨ad, c9, hsf⟩ := hd.form
    subst hsf
    obtain ⟨wc, HNW0, HAd0⟩ : ∃ wc, (wc ≠ w.heap.size + 1 ∧ wc ≠ w.heap.size ∧ wc ≠ B ∧ ∀ b, b < w.heap.size → b = wc → Tm B wb M b) ∧ (0 < (M i).wds.length → wc = wb i ∧ ad = some ⟨wb i, 0, none⟩) := by
      by_cases q : (M i).wds = []
      · refine ⟨w.heap.size + 2, ⟨by omega, by omega, by have := H0.out.lt; omega, fun b hb e => by omega⟩, fun z => by rw [q] at z; simp at z⟩
      · have h8 := H0.out.wlt hi q
        refine ⟨wb i, ⟨by omega, by omega, H0.out.ne i hi q, fun b _ e => Or.inr ⟨i, hi, q, e⟩⟩, fun _ => ⟨rfl, ?_⟩⟩
        rcases hd with ⟨e, _⟩ | ⟨_, c, e1, _⟩
        · exact absurd e q
        · injection e1
    have HNW := hideIt HNW0.1
    have HNR := hideIt HNW0.2.1
    have HNB := hideIt HNW0.2.2.1
    have HTW := hideIt HNW0.2.2.2
    have HAd := hideIt HAd0
    clear hd HX HNW0 HAd0
    generalize hgl : (M i).wds.length = wl at hwl hsv HAd
    have HGl := hideIt hgl
    clear hgl
    go_wp2_with fail
    go_region
    · skip
      have hb2 : Below w1.heap.size w1 (w1.alloc (.cells #[.bool false] 4)).drew := Below.thr (alloc_below _) (below_d _)
      have HB2 := hideIt (Below.thr HB1.out hb2)
      have HM2 := hideIt (HM1.out.below hb2)
      have HS2 := hideIt ((hb2.block _ (heap_lt HS1.out)).trans HS1.out)
      have HR2 := hideIt ((hb2.block _ (heap_lt HR1.out)).trans HR1.out)
      have hsv2 := (hb2.cell (p := ⟨B, i * 6 + 5, none⟩) (cell_lt hsv)).trans hsv
      clear hb2 HB1 HM1 HS1 HR1 hsv y0 y1
      generalize (w1.alloc (.cells #[.bool false] 4)).drew = w2 at *
      obtain ⟨y0, y1, _, _⟩ := two_cells HR2.out
      go_wp2_with fail
      go_quiet (fail)
      have HB3 := hideIt (Below.thr HB2.out (belowN w2 nq))
      have HM3 := hideIt (HM2.out.below (belowN w2 nq))
      have HS3 : Hid ((w2.drewN nq).heap[w.heap.size + 1]? = some (.cells #[.int .u8 0, .slice none 0 0, .slice none 0 0] 57 (0, 0))) := HS2.out
      have HR3 : Hid ((w2.drewN nq).heap[w.heap.size]? = some (.cells #[.int .u16 (i : Int), .int .u32 g] 32 (0, 0))) := HR2.out
      have HV3 : Hid ((w2.drewN nq).cell? ⟨B, i * 6 + 5, none⟩ = some (.slice ad wl c9)) := hsv2
      clear HB2 HM2 HS2 HR2 hsv2 y0 y1
      generalize w2.drewN nq = W at *
      go_wp2_with fail
      go_loopw [40] (fun v40 wr => ∃ k : Nat, k ≤ wl ∧ v40 = .int .i64 (k : Int) ∧ Md wr B wb (updM M i { M i with wds := zk (M i).wds k }) ∧ Ext W.heap.size (fun b => b = wc) W wr) (fun j _ => wl - (intOf j).toNat)
      case atStart => exact ⟨0, Nat.zero_le _, rfl, by rw [clr_start]; exact HM3.out, Ext.refl _ _ _⟩
      case round =>
        obtain ⟨k, hk, rfl, hmd, hex⟩ := hrel
        by_cases hlt : k < wl
        · have hlt' : (k : Int) < (wl : Int) := by omega
          have hkl : k < (M i).wds.length := by rw [HGl.out]; exact hlt
          obtain ⟨hwc, hado⟩ := HAd.out (by omega)
          subst hado
          obtain ⟨⟨x, hcx⟩, hfz⟩ := clr_cell hmd hi hkl
          have HN := hideIt (clr_next hmd hi hkl)
          have HE := hideIt (hex.setCell (p := ⟨wb i, k, none⟩) (Or.inr (show wb i = wc from hwc.symm)) (.int .u64 0))
          have yc := (hex.cell (p := ⟨w.heap.size, 0, none⟩) (cell_lt (two_cells HR3.out).1) (fun q => HNR.out q.symm)).trans (two_cells HR3.out).1
          have vc := (hex.cell (p := ⟨B, i * 6 + 5, none⟩) (cell_lt HV3.out) (fun q => HNB.out q.symm)).trans HV3.out
          clear hmd hex hkl
          go_wp2_with fail
          go_region
          go_wp2_with fail
          go_roundw
          case rel => exact ⟨k + 1, by omega, by go_num, HN.out.below (below_d _), HE.out.drew⟩
          case measure => simp [intOf]; omega
        · have hkl : k = wl := by omega
          have hmd2 : Md wr B wb (updM M i { M i with wds := List.replicate (M i).wds.length 0 }) := by
            rw [← zk_all, HGl.out, ← hkl]
            exact hmd
          clear hmd
          have hmd := hmd2
          clear hmd2
          have hs5 := (hex.block (w.heap.size + 1) (heap_lt HS3.out) (fun q => HNW.out q.symm)).trans HS3.out
          obtain ⟨r0, r1, r2, f0, f1, f2⟩ := three_cells hs5
          have HZ := hideIt (three_set hs5 (.int .u8 0) (.slice none 0 0) (.slice none 0 0))
          have HF : Hid (MsP B wb M X w (.returned (.agg #[.int .u8 0, .slice none 0 0, .slice none 0 0])) (((wr.setCell ⟨w.heap.size + 1, 0, none⟩ (.int .u8 0)).setCell ⟨w.heap.size + 1, 1, none⟩ (.slice none 0 0)).setCell ⟨w.heap.size + 1, 2, none⟩ (.slice none 0 0))) := by
            show MsP _ _ _ _ _ _ _
            rw [HX3.out]
            have e1 : Ext w.heap.size (Tm B wb M) w wr := (Ext.of_below HB3.out _).trans hex HB3.out.size (fun b hb q => HTW.out b hb q)
            refine MsP.chg (X := ⟨0, [], []⟩) (R := w.heap.size + 1) hmd e1 (Nat.le_succ _) (fun b hb => ?_) rfl (IsR.nil _ _) (IsU.nil _ _) (.int .u8 0) (.slice none 0 0) (.slice none 0 0)
            have hb2 := updW_tm (by simp) hb
            have := H0.out.tlt hb2
            exact ⟨by omega, Or.inl hb2⟩
          clear hmd hex hs5
          go_wp2_with fail
          refine bodyPost_ret (v := .agg #[.int .u8 0, (.slice none 0 0), (.slice none 0 0)]) ?_ rfl HF.out
          exact results_cell_row (by exact Tryz.results86) _ _ (w.heap.size + 1) _ _ _ _ (by rfl) (by exact HZ.out) Tryz.underlying57 rfl (by kernel_rfl)
    · skip
      have hb2 : Below w1.heap.size w1 (w1.alloc (.cells #[.bool true] 4)).drew := Below.thr (alloc_below _) (below_d _)
      have HB2 := hideIt (Below.thr HB1.out hb2)
      have HM2 := hideIt (HM1.out.below hb2)
      have HS2 := hideIt ((hb2.block _ (heap_lt HS1.out)).trans HS1.out)
      have HR2 := hideIt ((hb2.block _ (heap_lt HR1.out)).trans HR1.out)
      have hsv2 := (hb2.cell (p := ⟨B, i * 6 + 5, none⟩) (cell_lt hsv)).trans hsv
      clear hb2 HB1 HM1 HS1 HR1 hsv y0 y1
      generalize (w1.alloc (.cells #[.bool true] 4)).drew = w2 at *
      obtain ⟨y0, y1, _, _⟩ := two_cells HR2.out
      by_cases h0 : wl = 0
      · subst h0
        go_wp2_with fail
        go_quiet (fail)
        have HB3 := hideIt (Below.thr HB2.out (belowN w2 nq))
        have HM3 := hideIt (HM2.out.below (belowN w2 nq))
        have HS3 : Hid ((w2.drewN nq).heap[w.heap.size + 1]? = some (.cells #[.int .u8 0, .slice none 0 0, .slice none 0 0] 57 (0, 0))) := HS2.out
        have HR3 : Hid ((w2.drewN nq).heap[w.heap.size]? = some (.cells #[.int .u16 (i : Int), .int .u32 g] 32 (0, 0))) := HR2.out
        have HV3 : Hid ((w2.drewN nq).cell? ⟨B, i * 6 + 5, none⟩ = some (.slice ad 0 c9)) := hsv2
        clear HB2 HM2 HS2 HR2 hsv2 y0 y1
        generalize w2.drewN nq = W at *
        have hex := Ext.refl W.heap.size (fun b => b = wc) W
        have hmd : Md W B wb (updM M i { M i with wds := List.replicate (M i).wds.length 0 }) := by
          rw [← zk_all, HGl.out, clr_start]
          exact HM3.out
        have hs5 := (hex.block (w.heap.size + 1) (heap_lt HS3.out) (fun q => HNW.out q.symm)).trans HS3.out
        obtain ⟨r0, r1, r2, f0, f1, f2⟩ := three_cells hs5
        have HZ := hideIt (three_set hs5 (.int .u8 0) (.slice none 0 0) (.slice none 0 0))
        have HF : Hid (MsP B wb M X w (.returned (.agg #[.int .u8 0, .slice none 0 0, .slice none 0 0])) (((W.setCell ⟨w.heap.size + 1, 0, none⟩ (.int .u8 0)).setCell ⟨w.heap.size + 1, 1, none⟩ (.slice none 0 0)).setCell ⟨w.heap.size + 1, 2, none⟩ (.slice none 0 0))) := by
          show MsP _ _ _ _ _ _ _
          rw [HX3.out]
          have e1 : Ext w.heap.size (Tm B wb M) w W := (Ext.of_below HB3.out _).trans hex HB3.out.size (fun b hb q => HTW.out b hb q)
          refine MsP.chg (X := ⟨0, [], []⟩) (R := w.heap.size + 1) hmd e1 (Nat.le_succ _) (fun b hb => ?_) rfl (IsR.nil _ _) (IsU.nil _ _) (.int .u8 0) (.slice none 0 0) (.slice none 0 0)
          have hb2 := updW_tm (by simp) hb
          have := H0.out.tlt hb2
          exact ⟨by omega, Or.inl hb2⟩
        clear hmd hex hs5
        go_wp2_with fail
        refine bodyPost_ret (v := .agg #[.int .u8 0, (.slice none 0 0), (.slice none 0 0)]) ?_ rfl HF.out
        exact results_cell_row (by exact Tryz.results86) _ _ (w.heap.size + 1) _ _ _ _ (by rfl) (by exact HZ.out) Tryz.underlying57 rfl (by kernel_rfl)
      have hnb : ((wl : Int) != 0) = true := by rw [bne_iff_ne]; omega
      go_wp2_with fail
      go_quiet (fail)
      have HB3 := hideIt (Below.thr HB2.out (belowN w2 nq))
      have HM3 := hideIt (HM2.out.below (belowN w2 nq))
      have HS3 : Hid ((w2.drewN nq).heap[w.heap.size + 1]? = some (.cells #[.int .u8 0, .slice none 0 0, .slice none 0 0] 57 (0, 0))) := HS2.out
      have HR3 : Hid ((w2.drewN nq).heap[w.heap.size]? = some (.cells #[.int .u16 (i : Int), .int .u32 g] 32 (0, 0))) := HR2.out
      have HV3 : Hid ((w2.drewN nq).cell? ⟨B, i * 6 + 5, none⟩ = some (.slice ad wl c9)) := hsv2
      clear HB2 HM2 HS2 HR2 hsv2 y0 y1
      generalize w2.drewN nq = W at *
      go_wp2_with fail
      go_loopw [26] (fun v26 wr => ∃ k : Nat, k ≤ wl ∧ v26 = .int .i64 (k : Int) ∧ Md wr B wb (updM M i { M i with wds := zk (M i).wds k }) ∧ Ext W.heap.size (fun b => b = wc) W wr) (fun j _ => wl - (intOf j).toNat)
      case atStart => exact ⟨0, Nat.zero_le _, rfl, by rw [clr_start]; exact HM3.out, Ext.refl _ _ _⟩
      case round =>
        obtain ⟨k, hk, rfl, hmd, hex⟩ := hrel
        by_cases hlt : k < wl
        · have hlt' : (k : Int) < (wl : Int) := by omega
          have hkl : k < (M i).wds.length := by rw [HGl.out]; exact hlt
          obtain ⟨hwc, hado⟩ := HAd.out (by omega)
          subst hado
          obtain ⟨⟨x, hcx⟩, hfz⟩ := clr_cell hmd hi hkl
          have HN := hideIt (clr_next hmd hi hkl)
          have HE := hideIt (hex.setCell (p := ⟨wb i, k, none⟩) (Or.inr (show wb i = wc from hwc.symm)) (.int .u64 0))
          clear hmd hex hkl
          go_wp2_with fail
          go_roundw
          case rel => exact ⟨k + 1, by omega, by go_num, HN.out, HE.out⟩
          case measure => simp [intOf]; omega
        · have hkl : k = wl := by omega
          have hmd2 : Md wr B wb (updM M i { M i with wds := List.replicate (M i).wds.length 0 }) := by
            rw [← zk_all, HGl.out, ← hkl]
            exact hmd
          clear hmd
          have hmd := hmd2
          clear hmd2
          have hs5 := (hex.block (w.heap.size + 1) (heap_lt HS3.out) (fun q => HNW.out q.symm)).trans HS3.out
          obtain ⟨r0, r1, r2, f0, f1, f2⟩ := three_cells hs5
          have HZ := hideIt (three_set hs5 (.int .u8 0) (.slice none 0 0) (.slice none 0 0))
          have HF : Hid (MsP B wb M X w (.returned (.agg #[.int .u8 0, .slice none 0 0, .slice none 0 0])) (((wr.setCell ⟨w.heap.size + 1, 0, none⟩ (.int .u8 0)).setCell ⟨w.heap.size + 1, 1, none⟩ (.slice none 0 0)).setCell ⟨w.heap.size + 1, 2, none⟩ (.slice none 0 0))) := by
            show MsP _ _ _ _ _ _ _
            rw [HX3.out]
            have e1 : Ext w.heap.size (Tm B wb M) w wr := (Ext.of_below HB3.out _).trans hex HB3.out.size (fun b hb q => HTW.out b hb q)
            refine MsP.chg (X := ⟨0, [], []⟩) (R := w.heap.size + 1) hmd e1 (Nat.le_succ _) (fun b hb => ?_) rfl (IsR.nil _ _) (IsU.nil _ _) (.int .u8 0) (.slice none 0 0) (.slice none 0 0)
            have hb2 := updW_tm (by simp) hb
            have := H0.out.tlt hb2
            exact ⟨by omega, Or.inl hb2⟩
          clear hmd hex hs5
          go_wp2_with fail
          refine bodyPost_ret (v := .agg #[.int .u8 0, (.slice none 0 0), (.slice none 0 0)]) ?_ rfl HF.out
          exact results_cell_row (by exact Tryz.results86) _ _ (w.heap.size + 1) _ _ _ _ (by rfl) (by exact HZ.out) Tryz.underlying57 rfl (by kernel_rfl)
  · have hX2 : X = (bad (chk M i g), M) := by rw [HX.out]; unfold clrX cX; rw [if_pos hc]; rfl
    have HX2 := hideIt hX2
    have hcb : (chk M i g != 0) = true := by rw [bne_iff_ne]; exact hc
    clear hX2 hc HX
    generalize chk M i g = c at *
    go_enter Tryz.func86, Tryz.ntmps86
    go_upto_region 1 with fail
    rw [show (w.alloc (.cells #[.int .u16 (i : Int), .int .u32 g] 32)).alloc (.cells #[.int .u8 0, .slice none 0 0, .slice none 0 0] 57) = stW i g w from rfl]
    generalize stW i g w = w0 at *
    go_wp2_with fail
    go_at_call 211
    refine HC.out.mono ?_
    rintro e w1 ⟨rfl, hb1⟩
    have HB1 := hideIt (Below.thr HB.out hb1)
    have HS1 := hideIt ((hb1.block _ (heap_lt HS.out)).trans HS.out)
    clear hb1 x0 x1 HC HM HS HR HB
    go_wp2_with (go_at_call 90; refine (fail_m _ _).mono ?_; rintro e w3 ⟨rfl, hb3⟩; have hs3 := (hb3.block _ (heap_lt HS1.out)).trans HS1.out; obtain ⟨q0, q1, q2, k0, k1, k2⟩ := three_cells hs3; have HZ := hideIt (three_set hs3 (.int .u8 c) (.slice none 0 0) (.slice none 0 0)); have HF := hideIt (MsP.bad H0.out ((((Below.thr HB1.out hb3).setCell (p := ⟨w.heap.size + 1, 0, none⟩) (Nat.le_succ _) (.int .u8 c)).setCell (p := ⟨w.heap.size + 1, 1, none⟩) (Nat.le_succ _) (.slice none 0 0)).setCell (p := ⟨w.heap.size + 1, 2, none⟩) (Nat.le_succ _) (.slice none 0 0)) HX2.out); clear hb3 hs3)
    refine bodyPost_ret (v := .agg #[.int .u8 c, (.slice none 0 0), (.slice none 0 0)]) ?_ rfl HF.out
    exact results_cell_row (by exact Tryz.results86) _ _ (w.heap.size + 1) _ _ _ _ (by rfl) (by exact HZ.out) Tryz.underlying57 rfl (by kernel_rfl)
end
end Go.Proofs.Qxb6500847aGreatDoor.Os
