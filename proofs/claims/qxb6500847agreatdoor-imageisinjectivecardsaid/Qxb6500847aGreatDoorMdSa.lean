/-
  The abstract model: store.
-/
import Derived.Test.Qxb6500847aGreatDoorMdJ
import Derived.Test.Qxb6500847aGreatDoorMdW
import Derived.Test.Qxb6500847aGreatDoorMdFe
namespace Go.Proofs.Qxb6500847aGreatDoor.Os
open Go.RowKit FloorA
set_option maxRecDepth 100000
section
variable {w w' : World} {B : Nat} {wb : Nat → Nat} {M : Nat → En}
set_option maxHeartbeats 4000000 in
theorem store_m (h : Md w B wb M) (hM : Mk M) (i : Nat) (h6 : i < 65536) (g : Int) {f x : Nat} (hx64 : x < 18446744073709551616) :
    Calls Tryz.prog 83 #[.pointer (some ⟨B, 0, none⟩), .agg #[.int .u16 (i : Int), .int .u32 g], .int .i64 (f : Int), .int .u64 (x : Int)] w (MsP B wb M (cX (stoX M i g f (x : Int))) w) := by
  have hb0 := stW_below i g w
  obtain ⟨x0, x1, _, _⟩ := two_cells (stW_r i g w)
  have HR := hideIt (stW_r i g w)
  have HS := hideIt (stW_s i g w)
  have H0 := hideIt h
  have HM := hideIt (h.below hb0)
  have HMk := hideIt hM
  have HB := hideIt hb0
  have HC := hideIt (check_m HM.out i h6 g)
  obtain ⟨X, hX⟩ : ∃ X, X = (cX (stoX M i g f (x : Int))) := ⟨_, rfl⟩
  rw [← hX]
  have HX := hideIt hX
  clear h hb0 hM hX
  by_cases hc : chk M i g = 0
  · obtain ⟨hi, _, _, _⟩ := chk_lt hc
    have i3 : (i : Int) < 320 := by omega
    rw [hc] at HC
    have HCK : Hid (chk M i g = 0) := hc
    have i6 : wrap64 (i : Int) = (i : Int) := by unfold wrap64; omega
    clear hc
    go_enter Tryz.func83, Tryz.ntmps83
    go_upto_region 1 with fail
    rw [show (w.alloc (.cells #[.int .u16 (i : Int), .int .u32 g] 32)).alloc (.cells #[.int .u8 0, .slice none 0 0, .slice none 0 0] 57) = stW i g w from rfl]
    generalize stW i g w = w0 at *
    go_wp2_with fail
    go_at_call 211
    refine HC.out.mono ?_
    rintro e w1 ⟨rfl, hb1⟩
    have hr1 := (hb1.block _ (heap_lt HR.out)).trans HR.out
    obtain ⟨y0, y1, _, _⟩ := two_cells hr1
    have HB1 := hideIt (Below.thr HB.out hb1)
    have HM1 := hideIt (HM.out.below hb1)
    have HS1 := hideIt ((hb1.block _ (heap_lt HS.out)).trans HS.out)
    have HR1 := hideIt hr1
    clear hb1 hr1 x0 x1 HC HM HS HR HB
    obtain ⟨sv, hsv, hd⟩ := HM1.out.wrd i hi
    have hwl : (M i).wds.length ≤ 112 := HMk.out.wlen i hi
    by_cases hfl : (M i).wds.length ≤ f
    · have HX3 : Hid (X = (bad 13, M)) := by show X = _; rw [HX.out]; unfold stoX cX; rw [if_neg (by rw [HCK.out]; simp), if_pos hfl]; rfl
      obtain ⟨ad, c9, rfl⟩ := hd.form
      have hfl' : (f : Int) ≥ ((M i).wds.length : Int) := by omega
      clear hd HX
      generalize (M i).wds.length = wl at *
      go_wp2_with fail
      go_quiet (fail)
      have HB2 := hideIt (Below.thr HB1.out (belowN w1 nq))
      have HS2 : Hid ((w1.drewN nq).heap[w.heap.size + 1]? = some (.cells #[.int .u8 0, .slice none 0 0, .slice none 0 0] 57 (0, 0))) := HS1.out
      clear HB1 HS1 y0 y1 hsv
      generalize w1.drewN nq = w2 at *
      go_wp2_with (go_at_call 90; refine (fail_m _ _).mono ?_; rintro e w3 ⟨rfl, hb3⟩; have hs3 := (hb3.block _ (heap_lt HS2.out)).trans HS2.out; obtain ⟨q0, q1, q2, k0, k1, k2⟩ := three_cells hs3; have HZ := hideIt (three_set hs3 (.int .u8 13) (.slice none 0 0) (.slice none 0 0)); have HF := hideIt (MsP.bad H0.out ((((Below.thr HB2.out hb3).setCell (p := ⟨w.heap.size + 1, 0, none⟩) (Nat.le_succ _) (.int .u8 13)).setCell (p := ⟨w.heap.size + 1, 1, none⟩) (Nat.le_succ _) (.slice none 0 0)).setCell (p := ⟨w.heap.size + 1, 2, none⟩) (Nat.le_succ _) (.slice none 0 0)) HX3.out); clear hb3 hs3)
      refine bodyPost_ret (v := .agg #[.int .u8 13, (.slice none 0 0), (.slice none 0 0)]) ?_ rfl HF.out
      exact results_cell_row (by exact Tryz.results83) _ _ (w.heap.size + 1) _ _ _ _ (by rfl) (by exact HZ.out) Tryz.underlying57 rfl (by kernel_rfl)
    · have hfl0 : f < (M i).wds.length := by omega
      obtain ⟨y, hy⟩ : ∃ y, (M i).wds[f]? = some y := ⟨_, List.getElem?_eq_getElem hfl0⟩
      have hnn : (M i).wds ≠ [] := fun q => by rw [q] at hfl0; exact absurd hfl0 (by simp)
      have hfz1 := (hd.rng hnn).2 f
      have HWl := hideIt (H0.out.wlt hi hnn)
      obtain ⟨c9, rfl, hcx1, _⟩ := hd.at hy
      obtain ⟨tk, htk, tk7, _⟩ := HMk.out.typ i hi
      have htb : tabOf M i = tk - 2 := by unfold tabOf; rw [htk]; rfl
      have hln := HMk.out.wln i hi
      rw [htk] at hln
      have hk2 : 2 ≤ tk := by
        by_cases q : (tk : Int) < 2
        · rw [if_pos q] at hln; omega
        · omega
      have hnf : f < nF (tk - 2) := by
        rw [if_neg (by omega)] at hln
        rw [hln] at hfl0
        exact hfl0
      have zt1 := HM1.out.typ hi
      rw [htk] at zt1
      have hfl' : ¬ (f : Int) ≥ ((M i).wds.length : Int) := by omega
      have hfl2 : (f : Int) < ((M i).wds.length : Int) := by omega
      have ya1 := y0
      have hsv1 := hsv
      clear y0 y1 hsv hln hy htk
      by_cases hq : fOk (tk - 2) f (x : Int)
      · have HFt : Hid (∀ w', Calls Tryz.prog 218 #[.int .u8 (tk : Int), .int .i64 (f : Int), .int .u64 (x : Int)] w' (fun e w'' => e = .returned (.bool true) ∧ w'' = w')) := fun w' => (fits_m w' hk2 tk7 hnf hx64).mono (fun e w'' q => by
          obtain ⟨b, e1, e2, e3⟩ := q
          exact ⟨by rw [e1, e2.2 hq], e3⟩)
        have HX3 : Hid (X = (⟨0, [], []⟩, updM M i { M i with wds := (M i).wds.set f (x : Int) })) := by show X = _; rw [HX.out]; unfold stoX cX; rw [if_neg (by rw [HCK.out]; simp), if_neg hfl, if_pos (by rw [htb]; exact hq)]
        have HL0 := hideIt hfl0
        clear hd HX hq htb hnn hfl hnf hk2 hfl0
        generalize hgl : (M i).wds.length = wl at *
        have HGl := hideIt hgl
        clear hgl
        go_wp2_with fail
        go_quiet (fail)
        have HB2 := hideIt (Below.thr HB1.out (belowN w1 nq))
        have HS2 : Hid ((w1.drewN nq).heap[w.heap.size + 1]? = some (.cells #[.int .u8 0, .slice none 0 0, .slice none 0 0] 57 (0, 0))) := HS1.out
        have HM2 := hideIt (HM1.out.below (belowN w1 nq))
        have ya2 := (show (w1.drewN nq).cell? ⟨w.heap.size, 0, none⟩ = _ from ya1)
        have hsv2 := (show (w1.drewN nq).cell? ⟨B, i * 6 + 5, none⟩ = _ from hsv1)
        have hcx2 := (show (w1.drewN nq).cell? ⟨wb i, f, none⟩ = _ from hcx1)
        have hfz2 := (show (w1.drewN nq).frozen? ⟨wb i, f, none⟩ = _ from hfz1)
        have zt2 := (show (w1.drewN nq).cell? ⟨B, i * 6 + 1, none⟩ = _ from zt1)
        clear HB1 HS1 HM1 ya1 hsv1 hcx1 hfz1 zt1
        generalize w1.drewN nq = w2 at *
        go_wp2_with fail
        go_quiet ((go_at_call 218; exact Calls.quiet_of_same (HFt.out _)))
        have HB3 := hideIt (Below.thr HB2.out (belowN w2 nq))
        have HS3 : Hid ((w2.drewN nq).heap[w.heap.size + 1]? = some (.cells #[.int .u8 0, .slice none 0 0, .slice none 0 0] 57 (0, 0))) := HS2.out
        have HM3 := hideIt (HM2.out.below (belowN w2 nq))
        have ya3 := (show (w2.drewN nq).cell? ⟨w.heap.size, 0, none⟩ = _ from ya2)
        have hsv3 := (show (w2.drewN nq).cell? ⟨B, i * 6 + 5, none⟩ = _ from hsv2)
        have hcx3 := (show (w2.drewN nq).cell? ⟨wb i, f, none⟩ = _ from hcx2)
        have hfz3 := (show (w2.drewN nq).frozen? ⟨wb i, f, none⟩ = _ from hfz2)
        have zt3 := (show (w2.drewN nq).cell? ⟨B, i * 6 + 1, none⟩ = _ from zt2)
        clear HB2 HS2 HM2 ya2 hsv2 hcx2 hfz2 zt2
        generalize w2.drewN nq = w3 at *
        go_wp2_with fail
        go_region
        have HM4 : Hid (Md (w3.setCell ⟨wb i, f, none⟩ (.int .u64 (x : Int))).drew B wb (updM M i { M i with wds := (M i).wds.set f (x : Int) })) := (HM3.out.setW hi (by rw [HGl.out]; exact HL0.out) (x : Int)).below (below_d _)
        have HE4 : Hid (Ext w.heap.size (Tm B wb M) w (w3.setCell ⟨wb i, f, none⟩ (.int .u64 (x : Int))).drew) := ((Ext.of_below HB3.out _).setCell (p := ⟨wb i, f, none⟩) (Or.inr (Or.inr ⟨i, hi, fun q => by have h1 := HL0.out; have h2 := HGl.out; rw [q] at h2; simp at h2; omega, rfl⟩)) _).drew
        have hs4 : (w3.setCell ⟨wb i, f, none⟩ (.int .u64 (x : Int))).drew.heap[w.heap.size + 1]? = some (.cells #[.int .u8 0, .slice none 0 0, .slice none 0 0] 57 (0, 0)) := (Below.heap_setCell _ _ _ _ (by have := HWl.out; show ¬ w.heap.size + 1 = wb i; omega)).trans HS3.out
        clear HM3 HB3 HS3 ya3 hsv3 hcx3 hfz3 zt3
        generalize (w3.setCell ⟨wb i, f, none⟩ (.int .u64 (x : Int))).drew = w4 at *
        obtain ⟨r0, r1, r2, f0, f1, f2⟩ := three_cells hs4
        have HZ := hideIt (three_set hs4 (.int .u8 0) (.slice none 0 0) (.slice none 0 0))
        have HF : Hid (MsP B wb M X w (.returned (.agg #[.int .u8 0, .slice none 0 0, .slice none 0 0])) (((w4.setCell ⟨w.heap.size + 1, 0, none⟩ (.int .u8 0)).setCell ⟨w.heap.size + 1, 1, none⟩ (.slice none 0 0)).setCell ⟨w.heap.size + 1, 2, none⟩ (.slice none 0 0))) := by
          show MsP _ _ _ _ _ _ _
          rw [HX3.out]
          refine MsP.chg (X := ⟨0, [], []⟩) HM4.out HE4.out (Nat.le_succ _) (fun b hb => ?_) rfl (IsR.nil _ _) (IsU.nil _ _) (.int .u8 0) (.slice none 0 0) (.slice none 0 0)
          have hb2 := updW_tm (by simp) hb
          have := H0.out.tlt hb2
          exact ⟨by omega, Or.inl hb2⟩
        clear hs4
        go_wp2_with fail
        refine bodyPost_ret (v := .agg #[.int .u8 0, (.slice none 0 0), (.slice none 0 0)]) ?_ rfl HF.out
        exact results_cell_row (by exact Tryz.results83) _ _ (w.heap.size + 1) _ _ _ _ (by rfl) (by exact HZ.out) Tryz.underlying57 rfl (by kernel_rfl)
      · have HFt : Hid (∀ w', Calls Tryz.prog 218 #[.int .u8 (tk : Int), .int .i64 (f : Int), .int .u64 (x : Int)] w' (fun e w'' => e = .returned (.bool false) ∧ w'' = w')) := fun w' => (fits_m w' hk2 tk7 hnf hx64).mono (fun e w'' q => by
          obtain ⟨b, e1, e2, e3⟩ := q
          have : b = false := by
            cases b
            · rfl
            · exact absurd (e2.1 rfl) hq
          exact ⟨by rw [e1, this], e3⟩)
        have HX3 : Hid (X = (bad 14, M)) := by show X = _; rw [HX.out]; unfold stoX cX; rw [if_neg (by rw [HCK.out]; simp), if_neg hfl, if_neg (by rw [htb]; exact hq)]; rfl
        clear hd HX hq htb hnn hfl hnf hk2 hfl0
        generalize hgl : (M i).wds.length = wl at *
        clear hgl
        go_wp2_with fail
        go_quiet (fail)
        have HB2 := hideIt (Below.thr HB1.out (belowN w1 nq))
        have HS2 : Hid ((w1.drewN nq).heap[w.heap.size + 1]? = some (.cells #[.int .u8 0, .slice none 0 0, .slice none 0 0] 57 (0, 0))) := HS1.out
        have HM2 := hideIt (HM1.out.below (belowN w1 nq))
        have ya2 := (show (w1.drewN nq).cell? ⟨w.heap.size, 0, none⟩ = _ from ya1)
        have hsv2 := (show (w1.drewN nq).cell? ⟨B, i * 6 + 5, none⟩ = _ from hsv1)
        have hcx2 := (show (w1.drewN nq).cell? ⟨wb i, f, none⟩ = _ from hcx1)
        have hfz2 := (show (w1.drewN nq).frozen? ⟨wb i, f, none⟩ = _ from hfz1)
        have zt2 := (show (w1.drewN nq).cell? ⟨B, i * 6 + 1, none⟩ = _ from zt1)
        clear HB1 HS1 HM1 ya1 hsv1 hcx1 hfz1 zt1
        generalize w1.drewN nq = w2 at *
        go_wp2_with fail
        go_quiet ((go_at_call 218; exact Calls.quiet_of_same (HFt.out _)))
        have HB4 := hideIt (Below.thr HB2.out (belowN w2 nq))
        have HS4 : Hid ((w2.drewN nq).heap[w.heap.size + 1]? = some (.cells #[.int .u8 0, .slice none 0 0, .slice none 0 0] 57 (0, 0))) := HS2.out
        have HM4 := hideIt (HM2.out.below (belowN w2 nq))
        have ya4 := (show (w2.drewN nq).cell? ⟨w.heap.size, 0, none⟩ = _ from ya2)
        have hsv4 := (show (w2.drewN nq).cell? ⟨B, i * 6 + 5, none⟩ = _ from hsv2)
        have hcx4 := (show (w2.drewN nq).cell? ⟨wb i, f, none⟩ = _ from hcx2)
        have hfz4 := (show (w2.drewN nq).frozen? ⟨wb i, f, none⟩ = _ from hfz2)
        have zt4 := (show (w2.drewN nq).cell? ⟨B, i * 6 + 1, none⟩ = _ from zt2)
        clear HB2 HS2 HM2 ya2 hsv2 hcx2 hfz2 zt2
        generalize w2.drewN nq = w4 at *
        go_wp2_with (go_at_call 90; refine (fail_m _ _).mono ?_; rintro e w3 ⟨rfl, hb3⟩; have hs3 := (hb3.block _ (heap_lt HS4.out)).trans HS4.out; obtain ⟨q0, q1, q2, k0, k1, k2⟩ := three_cells hs3; have HZ := hideIt (three_set hs3 (.int .u8 14) (.slice none 0 0) (.slice none 0 0)); have HF := hideIt (MsP.bad H0.out ((((Below.thr HB4.out hb3).setCell (p := ⟨w.heap.size + 1, 0, none⟩) (Nat.le_succ _) (.int .u8 14)).setCell (p := ⟨w.heap.size + 1, 1, none⟩) (Nat.le_succ _) (.slice none 0 0)).setCell (p := ⟨w.heap.size + 1, 2, none⟩) (Nat.le_succ _) (.slice none 0 0)) HX3.out); clear hb3 hs3)
        refine bodyPost_ret (v := .agg #[.int .u8 14, (.slice none 0 0), (.slice none 0 0)]) ?_ rfl HF.out
        exact results_cell_row (by exact Tryz.results83) _ _ (w.heap.size + 1) _ _ _ _ (by rfl) (by exact HZ.out) Tryz.underlying57 rfl (by kernel_rfl)
  · have hX2 : X = (bad (chk M i g), M) := by rw [HX.out]; unfold stoX cX; rw [if_pos hc]; rfl
    have HX2 := hideIt hX2
    have hcb : (chk M i g != 0) = true := by rw [bne_iff_ne]; exact hc
    clear hX2 hc HX
    generalize chk M i g = c at *
    go_enter Tryz.func83, Tryz.ntmps83
    go_upto_region 1 with fail
    rw [show (w.alloc (.cells #[.int .u16 (i : Int), .int .u32 g] 32)).alloc (.cells #[.int .u8 0, .slice none 0 0, .slice none 0 0] 57) = stW i g w from rfl]
    generalize stW i g w = w0 at *
    go_wp2_with fail
    go_at_call 211
    refine HC.out.mono ?_
    rintro e w1 ⟨rfl, hb1⟩
    have HB1 := hideIt (Below.thr HB.out hb1)
    have HS1 := hideIt ((hb1.block _ (heap_lt HS.out)).trans HS.out)
    clear hb1 x0 x1 HC HM HS HR HB
    go_wp2_with (go_at_call 90; refine (fail_m _ _).mono ?_; rintro e w3 ⟨rfl, hb3⟩; have hs3 := (hb3.block _ (heap_lt HS1.out)).trans HS1.out; obtain ⟨q0, q1, q2, k0, k1, k2⟩ := three_cells hs3; have HZ := hideIt (three_set hs3 (.int .u8 c) (.slice none 0 0) (.slice none 0 0)); have HF := hideIt (MsP.bad H0.out ((((Below.thr HB1.out hb3).setCell (p := ⟨w.heap.size + 1, 0, none⟩) (Nat.le_succ _) (.int .u8 c)).setCell (p := ⟨w.heap.size + 1, 1, none⟩) (Nat.le_succ _) (.slice none 0 0)).setCell (p := ⟨w.heap.size + 1, 2, none⟩) (Nat.le_succ _) (.slice none 0 0)) HX2.out); clear hb3 hs3)
    refine bodyPost_ret (v := .agg #[.int .u8 c, (.slice none 0 0), (.slice none 0 0)]) ?_ rfl HF.out
    exact results_cell_row (by exact Tryz.results83) _ _ (w.heap.size + 1) _ _ _ _ (by rfl) (by exact HZ.out) Tryz.underlying57 rfl (by kernel_rfl)
end
end Go.Proofs.Qxb6500847aGreatDoor.Os
