/-
  The abstract model: copyWords.
-/
import Derived.Test.Qxb6500847aGreatDoorMdR
import Derived.Test.Qxb6500847aGreatDoorMdW
import Derived.Deep.RegionHeld3
namespace Go.Proofs.Qxb6500847aGreatDoor.Os
open Go.RowKit FloorA
set_option maxRecDepth 100000
theorem nF_pos (t : Nat) : 0 < nF t := by
  match t with
  | 0 => decide
  | 1 => decide
  | 2 => decide
  | 3 => decide
  | 4 => decide
  | _ + 5 => show 0 < 4; decide
section
variable {w w' : World} {B : Nat} {wb : Nat → Nat} {M : Nat → En}
set_option maxHeartbeats 8000000 in
theorem copyWords_m (h : Md w B wb M) (hM : Mk M) (i : Nat) (h6 : i < 65536) (g : Int) (j : Nat) (j6 : j < 65536) (k : Int) :
    Calls Tryz.prog 87 #[.pointer (some ⟨B, 0, none⟩), .agg #[.int .u16 (i : Int), .int .u32 g], .agg #[.int .u16 (j : Int), .int .u32 k]] w (MsP B wb M (cX (cpyX M i g j k)) w) := by
  have hb0 := stV_below i g j k w
  obtain ⟨x0, x1, _, _⟩ := two_cells (stV_i i g j k w)
  obtain ⟨v0, v1, _, _⟩ := two_cells (stV_j i g j k w)
  have HI := hideIt (stV_i i g j k w)
  have HJ := hideIt (stV_j i g j k w)
  have HS := hideIt (stV_s i g j k w)
  have H0 := hideIt h
  have HM := hideIt (h.below hb0)
  have HMk := hideIt hM
  have HB := hideIt hb0
  have HC := hideIt (check_m HM.out i h6 g)
  obtain ⟨X, hX⟩ : ∃ X, X = cX (cpyX M i g j k) := ⟨_, rfl⟩
  rw [← hX]
  have HX := hideIt hX
  clear h hb0 hX hM
  obtain ⟨W0, hW0⟩ : ∃ W0, W0 = stV i g j k w := ⟨_, rfl⟩
  rw [← hW0] at x0 x1 v0 v1 HI HJ HS HM HB HC
  by_cases hc : chk M i g = 0
  · obtain ⟨hi, _, hti, _⟩ := chk_lt hc
    have i3 : (i : Int) < 320 := by omega
    obtain ⟨ki, hki, ki7, _⟩ := HMk.out.typ i hi
    rw [hc] at HC
    have HCK : Hid (chk M i g = 0) := hc
    clear hc
    go_enter Tryz.func87, Tryz.ntmps87
    go_upto_region 1 with fail
    rw [show ((w.alloc (.cells #[.int .u16 (i : Int), .int .u32 g] 32)).alloc (.cells #[.int .u16 (j : Int), .int .u32 k] 32)).alloc (.cells #[.int .u8 0, .slice none 0 0, .slice none 0 0] 57) = W0 from hW0.symm]
    clear hW0
    go_wp2_with fail
    go_at_call 211
    refine HC.out.mono ?_
    rintro e w1 ⟨rfl, hb1⟩
    have HB1 := hideIt (Below.thr HB.out hb1)
    have HS1 := hideIt ((hb1.block _ (heap_lt HS.out)).trans HS.out)
    have HI1 := hideIt ((hb1.block _ (heap_lt HI.out)).trans HI.out)
    have HJ1 := hideIt ((hb1.block _ (heap_lt HJ.out)).trans HJ.out)
    have HM1 := hideIt (HM.out.below hb1)
    have zi := HM1.out.typ hi
    rw [hki] at zi
    clear hb1 x0 x1 v0 v1 HC HM HS HI HJ HB
    obtain ⟨y0, y1, _, _⟩ := two_cells HI1.out
    obtain ⟨t0, t1, _, _⟩ := two_cells HJ1.out
    by_cases ht1 : ki = 1
    · subst ht1
      have HX3 : Hid (X = (Os.bad 3, M)) := by show X = _; rw [HX.out]; unfold cpyX cX; rw [if_neg (by rw [HCK.out]; simp), if_pos (by rw [hki]; rfl)]; rfl
      clear HX
      go_wp2_with fail
      go_quiet (fail)
      have HB2 := hideIt (Below.thr HB1.out (belowN w1 nq))
      have HS2 : Hid ((w1.drewN nq).heap[w.heap.size + 2]? = some (.cells #[.int .u8 0, .slice none 0 0, .slice none 0 0] 57 (0, 0))) := HS1.out
      have HM2 := hideIt (HM1.out.below (belowN w1 nq))
      have HI2 : Hid ((w1.drewN nq).heap[w.heap.size]? = some (.cells #[.int .u16 (i : Int), .int .u32 g] 32 (0, 0))) := HI1.out
      have HJ2 : Hid ((w1.drewN nq).heap[w.heap.size + 1]? = some (.cells #[.int .u16 (j : Int), .int .u32 k] 32 (0, 0))) := HJ1.out
      clear HB1 HS1 HM1 HI1 HJ1 zi y0 y1 t0 t1
      generalize w1.drewN nq = w2 at *
      go_wp2_with (go_at_call 90; refine (fail_m _ _).mono ?_; rintro e w9 ⟨rfl, hb9⟩; have hs9 := (hb9.block _ (heap_lt HS2.out)).trans HS2.out; obtain ⟨q0, q1, q2, k0, k1, k2⟩ := three_cells hs9; have HZ := hideIt (three_set hs9 (.int .u8 3) (.slice none 0 0) (.slice none 0 0)); have HF := hideIt (MsP.badR (R := w.heap.size + 2) H0.out (Below.thr HB2.out hb9) (by omega) HX3.out (.int .u8 3) (.slice none 0 0) (.slice none 0 0)); clear hb9 hs9)
      refine bodyPost_ret (v := .agg #[.int .u8 3, (.slice none 0 0), (.slice none 0 0)]) ?_ rfl HF.out
      exact results_cell_row (by exact Tryz.results87) _ _ (w.heap.size + 2) _ _ _ _ (by rfl) (by exact HZ.out) Tryz.underlying57 rfl (by kernel_rfl)
    · have htb : ((ki : Int) == 1) = false := by rw [beq_eq_false_iff_ne]; omega
      have hk2 : 2 ≤ ki := by
        have : ki ≠ 0 := fun q => hti (by rw [hki, q]; rfl)
        omega
      have HN1 : Hid (¬ (M i).typ = 1) := fun q => ht1 (by omega)
      go_wp2_with fail
      go_quiet (fail)
      have HB2 := hideIt (Below.thr HB1.out (belowN w1 nq))
      have HS2 : Hid ((w1.drewN nq).heap[w.heap.size + 2]? = some (.cells #[.int .u8 0, .slice none 0 0, .slice none 0 0] 57 (0, 0))) := HS1.out
      have HM2 := hideIt (HM1.out.below (belowN w1 nq))
      have HI2 : Hid ((w1.drewN nq).heap[w.heap.size]? = some (.cells #[.int .u16 (i : Int), .int .u32 g] 32 (0, 0))) := HI1.out
      have HJ2 : Hid ((w1.drewN nq).heap[w.heap.size + 1]? = some (.cells #[.int .u16 (j : Int), .int .u32 k] 32 (0, 0))) := HJ1.out
      clear HB1 HS1 HM1 HI1 HJ1 zi y0 y1 t0 t1 htb ht1
      generalize w1.drewN nq = w2 at *
      obtain ⟨y0, y1, _, _⟩ := two_cells HI2.out
      obtain ⟨t0, t1, _, _⟩ := two_cells HJ2.out
      have HC2 := hideIt (check_m HM2.out j j6 k)
      by_cases hd : chk M j k = 0
      · obtain ⟨hj, _, _, _⟩ := chk_lt hd
        have j3 : (j : Int) < 320 := by omega
        obtain ⟨kj, hkj, kj7, _⟩ := HMk.out.typ j hj
        have HDK : Hid (chk M j k = 0) := hd
        rw [hd] at HC2
        clear hd
        go_wp2_with fail
        go_at_call 211
        refine HC2.out.mono ?_
        rintro e w3 ⟨rfl, hb3⟩
        have HB3 := hideIt (Below.thr HB2.out hb3)
        have HS3 := hideIt ((hb3.block _ (heap_lt HS2.out)).trans HS2.out)
        have HI3 := hideIt ((hb3.block _ (heap_lt HI2.out)).trans HI2.out)
        have HJ3 := hideIt ((hb3.block _ (heap_lt HJ2.out)).trans HJ2.out)
        have HM3 := hideIt (HM2.out.below hb3)
        have zi := HM3.out.typ hi
        have zj := HM3.out.typ hj
        rw [hki] at zi
        rw [hkj] at zj
        clear hb3 y0 y1 t0 t1 HC2 HM2 HS2 HI2 HJ2 HB2
        obtain ⟨y0, y1, _, _⟩ := two_cells HI3.out
        obtain ⟨t0, t1, _, _⟩ := two_cells HJ3.out
        by_cases htt : kj = ki
        · subst htt
          have HX3 : Hid (X = (⟨0, [], []⟩, updM M j { M j with wds := (M i).wds })) := by show X = _; rw [HX.out]; unfold cpyX cX; rw [if_neg (by rw [HCK.out]; simp), if_neg HN1.out, if_neg (by rw [HDK.out]; simp), if_neg (fun q => q (by rw [hki, hkj]))]
          have hli : (M i).wds.length = nF (kj - 2) := by
            have := HMk.out.wln i hi
            rw [hki, if_neg (by omega)] at this
            exact this
          have hlj : (M j).wds.length = nF (kj - 2) := by
            have := HMk.out.wln j hj
            rw [hkj, if_neg (by omega)] at this
            exact this
          have hnp := nF_pos (kj - 2)
          have hni : (M i).wds ≠ [] := fun q => by rw [q] at hli; simp at hli; omega
          have hnj : (M j).wds ≠ [] := fun q => by rw [q] at hlj; simp at hlj; omega
          clear HX
          go_wp2_with fail
          go_quiet (fail)
          have HB4 := hideIt (Below.thr HB3.out (belowN w3 nq))
          have HS4 : Hid ((w3.drewN nq).heap[w.heap.size + 2]? = some (.cells #[.int .u8 0, .slice none 0 0, .slice none 0 0] 57 (0, 0))) := HS3.out
          have HM4 := hideIt (HM3.out.below (belowN w3 nq))
          have HI4 : Hid ((w3.drewN nq).heap[w.heap.size]? = some (.cells #[.int .u16 (i : Int), .int .u32 g] 32 (0, 0))) := HI3.out
          have HJ4 : Hid ((w3.drewN nq).heap[w.heap.size + 1]? = some (.cells #[.int .u16 (j : Int), .int .u32 k] 32 (0, 0))) := HJ3.out
          clear HB3 HS3 HM3 HI3 HJ3 zi zj y0 y1 t0 t1
          generalize w3.drewN nq = w4 at *
          obtain ⟨y0, y1, _, _⟩ := two_cells HI4.out
          obtain ⟨t0, t1, _, _⟩ := two_cells HJ4.out
          obtain ⟨si, hsi, hdi⟩ := HM4.out.wrd i hi
          obtain ⟨sj, hsj, hdj⟩ := HM4.out.wrd j hj
          obtain ⟨ci, rfl⟩ : ∃ c, si = .slice (some ⟨wb i, 0, none⟩) (M i).wds.length c := by
            rcases hdi with ⟨e, _⟩ | ⟨_, c, e1, _⟩
            · exact absurd e hni
            · exact ⟨c, e1⟩
          obtain ⟨cj, rfl⟩ : ∃ c, sj = .slice (some ⟨wb j, 0, none⟩) (M j).wds.length c := by
            rcases hdj with ⟨e, _⟩ | ⟨_, c, e1, _⟩
            · exact absurd e hnj
            · exact ⟨c, e1⟩
          obtain ⟨hri, hfi⟩ := hdi.rng hni
          obtain ⟨hrj, hfj⟩ := hdj.rng hnj
          rw [hli] at hsi
          rw [hlj] at hsj
          obtain ⟨zs, hzs⟩ : ∃ zs, zs = (M i).wds.map (Value.int .u64) := ⟨_, rfl⟩
          have hzl : zs.length = nF (kj - 2) := by rw [hzs, List.length_map, hli]
          have HCp : Hid (∀ ty, (Builtin.copy_ #[35, 35] ty #[.slice (some ⟨wb j, 0, none⟩) (nF (kj - 2)) cj, .slice (some ⟨wb i, 0, none⟩) (nF (kj - 2)) ci]).run Tryz.prog w4.drew = .ok (goInt zs.length) (w4.drew.setCells (wb j) 0 zs)) := fun ty => by
            refine run_copy_cells w4.drew 35 35 ty 34 (wb j) 0 _ cj ⟨wb i, 0, none⟩ _ ci zs Tryz.underlying35 siz34m (by rw [hzl]; exact (Nat.min_self _).symm) (fun q v hv => ?_) (fun q hq => ?_) (fun q hq => ?_) (by rw [hzs]; exact one_us _)
            · rw [hzs] at hv
              have h7 := hri q v hv
              rw [addP]
              exact h7
            · obtain ⟨y, hy⟩ : ∃ y, (M j).wds[q]? = some y := ⟨_, List.getElem?_eq_getElem (by omega)⟩
              have h7 := hrj q (.int .u64 y) (by rw [List.getElem?_map, hy]; rfl)
              show (w4.cell? _).isSome = true
              rw [h7]
              rfl
            · exact hfj _
          have HM5 : Hid (Md (w4.drew.setCells (wb j) 0 zs) B wb (updM M j { M j with wds := (M i).wds })) := by
            show Md _ _ _ _
            rw [hzs]
            exact (HM4.out.below (below_d _)).setWs hj hni (by rw [hli, hlj])
          have HE5 : Hid (Ext w.heap.size (Tm B wb M) w (w4.drew.setCells (wb j) 0 zs)) := Ext.cells ((Ext.of_below HB4.out _).drew) (Or.inr ⟨j, hj, hnj, rfl⟩) _ _
          have HWl := hideIt (H0.out.wlt hj hnj)
          have hs5 : (w4.drew.setCells (wb j) 0 zs).heap[w.heap.size + 2]? = some (.cells #[.int .u8 0, .slice none 0 0, .slice none 0 0] 57 (0, 0)) := ((Ext.cells (Ext.refl w4.drew.heap.size (fun b => b = wb j) w4.drew) rfl zs 0).block (w.heap.size + 2) (heap_lt HS4.out) (by have := HWl.out; show ¬ w.heap.size + 2 = wb j; omega)).trans HS4.out
          have HS5 := hideIt hs5
          have HE45 := Ext.cells (Ext.refl w4.drew.heap.size (fun b => b = wb j) w4.drew) rfl zs 0
          have HK5 : Hid ((w4.drew.setCells (wb j) 0 zs).cell? ⟨w.heap.size, 0, none⟩ = some (.int .u16 (i : Int)) ∧ (w4.drew.setCells (wb j) 0 zs).cell? ⟨w.heap.size + 1, 0, none⟩ = some (.int .u16 (j : Int)) ∧ (w4.drew.setCells (wb j) 0 zs).cell? ⟨B, j * 6 + 5, none⟩ = some (.slice (some ⟨wb j, 0, none⟩) (nF (kj - 2)) cj) ∧ (w4.drew.setCells (wb j) 0 zs).cell? ⟨B, i * 6 + 5, none⟩ = some (.slice (some ⟨wb i, 0, none⟩) (nF (kj - 2)) ci)) := by
            have h8 := HWl.out
            have h9 := H0.out.ne j hj hnj
            exact ⟨(HE45.cell (p := ⟨w.heap.size, 0, none⟩) (cell_lt y0) (by show ¬ w.heap.size = wb j; omega)).trans y0, (HE45.cell (p := ⟨w.heap.size + 1, 0, none⟩) (cell_lt t0) (by show ¬ w.heap.size + 1 = wb j; omega)).trans t0, (HE45.cell (p := ⟨B, j * 6 + 5, none⟩) (cell_lt hsj) (fun q => h9 q.symm)).trans hsj, (HE45.cell (p := ⟨B, i * 6 + 5, none⟩) (cell_lt hsi) (fun q => h9 q.symm)).trans hsi⟩
          have HTl : Hid ((M i).wds.length = (M j).wds.length) := by show _ = _; rw [hli, hlj]
          clear HE45 hri hfi hrj hfj hzs hdi hdj hs5 hli hlj hnp hni hnj HM4 HB4 HS4 HI4 HJ4
          generalize nF (kj - 2) = nf at *
          generalize hw5 : w4.drew.setCells (wb j) 0 zs = w5 at *
          clear hw5
          go_wp2_with fail
          go_region_held3 (fun w' => w'.cell? ⟨w.heap.size, 0, none⟩ = some (.int .u16 (i : Int)) ∧ w'.cell? ⟨w.heap.size + 1, 0, none⟩ = some (.int .u16 (j : Int)) ∧ w'.cell? ⟨B, j * 6 + 5, none⟩ = some (.slice (some ⟨wb j, 0, none⟩) nf cj) ∧ w'.cell? ⟨B, i * 6 + 5, none⟩ = some (.slice (some ⟨wb i, 0, none⟩) nf ci)) (first | exact HK5.out | go_keep)
            ((refine step_copy_r rfl _ _ 35 35 rfl (.slice (some ⟨wb j, 0, none⟩) nf cj) (.slice (some ⟨wb i, 0, none⟩) nf ci) (by first | rfl | simp [Act.eval] | simp [Act.eval, Act.put]) (by first | rfl | simp [Act.eval] | simp [Act.eval, Act.put]) (HCp.out _) ?_))
          have hs5 := HS5.out
          obtain ⟨r0, r1, r2, f0, f1, f2⟩ := three_cells hs5
          have HZ := hideIt (three_set hs5 (.int .u8 0) (.slice none 0 0) (.slice none 0 0))
          have HF : Hid (MsP B wb M X w (.returned (.agg #[.int .u8 0, .slice none 0 0, .slice none 0 0])) (((w5.setCell ⟨w.heap.size + 2, 0, none⟩ (.int .u8 0)).setCell ⟨w.heap.size + 2, 1, none⟩ (.slice none 0 0)).setCell ⟨w.heap.size + 2, 2, none⟩ (.slice none 0 0))) := by
            show MsP _ _ _ _ _ _ _
            rw [HX3.out]
            refine MsP.chg (X := ⟨0, [], []⟩) HM5.out HE5.out (by omega) (fun b hb => ?_) rfl (IsR.nil _ _) (IsU.nil _ _) (.int .u8 0) (.slice none 0 0) (.slice none 0 0)
            have hb2 := updW_tm HTl.out hb
            have := H0.out.tlt hb2
            exact ⟨by omega, Or.inl hb2⟩
          clear hs5
          go_wp2_with fail
          refine bodyPost_ret (v := .agg #[.int .u8 0, (.slice none 0 0), (.slice none 0 0)]) ?_ rfl HF.out
          exact results_cell_row (by exact Tryz.results87) _ _ (w.heap.size + 2) _ _ _ _ (by rfl) (by exact HZ.out) Tryz.underlying57 rfl (by kernel_rfl)
        · have htb : ((kj : Int) != (ki : Int)) = true := by rw [bne_iff_ne]; omega
          have HX3 : Hid (X = (Os.bad 3, M)) := by show X = _; rw [HX.out]; unfold cpyX cX; rw [if_neg (by rw [HCK.out]; simp), if_neg HN1.out, if_neg (by rw [HDK.out]; simp), if_pos (fun q => htt (by omega))]; rfl
          clear HX
          go_wp2_with fail
          go_quiet (fail)
          have HB4 := hideIt (Below.thr HB3.out (belowN w3 nq))
          have HS4 : Hid ((w3.drewN nq).heap[w.heap.size + 2]? = some (.cells #[.int .u8 0, .slice none 0 0, .slice none 0 0] 57 (0, 0))) := HS3.out
          have HM4 := hideIt (HM3.out.below (belowN w3 nq))
          have HI4 : Hid ((w3.drewN nq).heap[w.heap.size]? = some (.cells #[.int .u16 (i : Int), .int .u32 g] 32 (0, 0))) := HI3.out
          have HJ4 : Hid ((w3.drewN nq).heap[w.heap.size + 1]? = some (.cells #[.int .u16 (j : Int), .int .u32 k] 32 (0, 0))) := HJ3.out
          clear HB3 HS3 HM3 HI3 HJ3 zi zj y0 y1 t0 t1
          generalize w3.drewN nq = w4 at *
          go_wp2_with (go_at_call 90; refine (fail_m _ _).mono ?_; rintro e w9 ⟨rfl, hb9⟩; have hs9 := (hb9.block _ (heap_lt HS4.out)).trans HS4.out; obtain ⟨q0, q1, q2, k0, k1, k2⟩ := three_cells hs9; have HZ := hideIt (three_set hs9 (.int .u8 3) (.slice none 0 0) (.slice none 0 0)); have HF := hideIt (MsP.badR (R := w.heap.size + 2) H0.out (Below.thr HB4.out hb9) (by omega) HX3.out (.int .u8 3) (.slice none 0 0) (.slice none 0 0)); clear hb9 hs9)
          refine bodyPost_ret (v := .agg #[.int .u8 3, (.slice none 0 0), (.slice none 0 0)]) ?_ rfl HF.out
          exact results_cell_row (by exact Tryz.results87) _ _ (w.heap.size + 2) _ _ _ _ (by rfl) (by exact HZ.out) Tryz.underlying57 rfl (by kernel_rfl)
      · have HX2 : Hid (X = (Os.bad (chk M j k), M)) := by show X = _; rw [HX.out]; unfold cpyX cX; rw [if_neg (by rw [HCK.out]; simp), if_neg HN1.out, if_pos hd]; rfl
        have hcb : (chk M j k != 0) = true := by rw [bne_iff_ne]; exact hd
        clear hd HX
        generalize chk M j k = c at *
        go_wp2_with fail
        go_at_call 211
        refine HC2.out.mono ?_
        rintro e w3 ⟨rfl, hb3⟩
        have HB3 := hideIt (Below.thr HB2.out hb3)
        have HS3 := hideIt ((hb3.block _ (heap_lt HS2.out)).trans HS2.out)
        clear hb3 y0 y1 t0 t1 HC2 HM2 HS2 HI2 HJ2 HB2
        go_wp2_with (go_at_call 90; refine (fail_m _ _).mono ?_; rintro e w9 ⟨rfl, hb9⟩; have hs9 := (hb9.block _ (heap_lt HS3.out)).trans HS3.out; obtain ⟨q0, q1, q2, k0, k1, k2⟩ := three_cells hs9; have HZ := hideIt (three_set hs9 (.int .u8 c) (.slice none 0 0) (.slice none 0 0)); have HF := hideIt (MsP.badR (R := w.heap.size + 2) H0.out (Below.thr HB3.out hb9) (by omega) HX2.out (.int .u8 c) (.slice none 0 0) (.slice none 0 0)); clear hb9 hs9)
        refine bodyPost_ret (v := .agg #[.int .u8 c, (.slice none 0 0), (.slice none 0 0)]) ?_ rfl HF.out
        exact results_cell_row (by exact Tryz.results87) _ _ (w.heap.size + 2) _ _ _ _ (by rfl) (by exact HZ.out) Tryz.underlying57 rfl (by kernel_rfl)
  · have HX2 : Hid (X = (Os.bad (chk M i g), M)) := by show X = _; rw [HX.out]; unfold cpyX cX; rw [if_pos hc]; rfl
    have hcb : (chk M i g != 0) = true := by rw [bne_iff_ne]; exact hc
    clear hc HX
    generalize chk M i g = c at *
    go_enter Tryz.func87, Tryz.ntmps87
    go_upto_region 1 with fail
    rw [show ((w.alloc (.cells #[.int .u16 (i : Int), .int .u32 g] 32)).alloc (.cells #[.int .u16 (j : Int), .int .u32 k] 32)).alloc (.cells #[.int .u8 0, .slice none 0 0, .slice none 0 0] 57) = W0 from hW0.symm]
    clear hW0
    go_wp2_with fail
    go_at_call 211
    refine HC.out.mono ?_
    rintro e w1 ⟨rfl, hb1⟩
    have HB1 := hideIt (Below.thr HB.out hb1)
    have HS1 := hideIt ((hb1.block _ (heap_lt HS.out)).trans HS.out)
    clear hb1 x0 x1 v0 v1 HC HM HS HI HJ HB
    go_wp2_with (go_at_call 90; refine (fail_m _ _).mono ?_; rintro e w9 ⟨rfl, hb9⟩; have hs9 := (hb9.block _ (heap_lt HS1.out)).trans HS1.out; obtain ⟨q0, q1, q2, k0, k1, k2⟩ := three_cells hs9; have HZ := hideIt (three_set hs9 (.int .u8 c) (.slice none 0 0) (.slice none 0 0)); have HF := hideIt (MsP.badR (R := w.heap.size + 2) H0.out (Below.thr HB1.out hb9) (by omega) HX2.out (.int .u8 c) (.slice none 0 0) (.slice none 0 0)); clear hb9 hs9)
    refine bodyPost_ret (v := .agg #[.int .u8 c, (.slice none 0 0), (.slice none 0 0)]) ?_ rfl HF.out
    exact results_cell_row (by exact Tryz.results87) _ _ (w.heap.size + 2) _ _ _ _ (by rfl) (by exact HZ.out) Tryz.underlying57 rfl (by kernel_rfl)
end
end Go.Proofs.Qxb6500847aGreatDoor.Os
