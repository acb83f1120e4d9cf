/-
  ImageIsInjective: the walk.
-/
import Derived.Test.Qxb6500847aGreatDoorImH
import Derived.Test.Qxb6500847aGreatDoorSwA
import Derived.Test.Qxb6500847aGreatDoorSwB
import Derived.BigQuiet
namespace Go.Proofs.Qxb6500847aGreatDoor.Os
open Go.RowKit FloorA Go.Lib
set_option maxRecDepth 100000
theorem two_maps (w : World) : Mps w.heap.size (w.heap.size + 1) [] ((w.alloc (.map #[] 0)).alloc (.map #[] 0)) ∧ Below w.heap.size w ((w.alloc (.map #[] 0)).alloc (.map #[] 0)) := by
  have h1 := Ss.made w
  have h2 := Ss.made (w.alloc (.map #[] 0))
  rw [show (w.alloc (.map #[] 0)).heap.size = w.heap.size + 1 by simp] at h2
  exact ⟨⟨h1.keep (heap_alloc_old _ _ (by simp)), h2, fun x hx => absurd hx (by simp)⟩, two_below _ _⟩
set_option maxHeartbeats 16000000 in
theorem ilaw_walk (w : World) (hg : Gl w) (ht : Tbw w) (a0 : Option Addr) (b off len cap : Nat) (f : Nat → OpV) (hml : len ≤ 1152921504606846976) (ha : 0 < len → a0 = some ⟨b, off, none⟩) (hn : a0 = none → len = 0 ∧ cap = 0) (hops : ∀ i, i < len → OpAt w b (off + i * 12) (f i)) :
    Calls Tryz.prog 5 #[.slice a0 len cap] w fun e w' => e = .returned (.bool true) ∧ Below w.heap.size w w' := by
  have hmm := @run_makeMap Tryz.prog
  have HSM := hideIt (smallS_walk w a0 b off len cap f hml ha hops)
  obtain ⟨hmp0, hbm0⟩ := two_maps w
  have HSW := hideIt (fun hl => swap_walk ((w.alloc (.map #[] 0)).alloc (.map #[] 0)) a0 b off len cap f hl ha hn (fun i hi => (hops i hi).below hbm0))
  have HMP0 := hideIt hmp0
  have HBM0 := hideIt hbm0
  have HO := hideIt hops
  have HA : Hid (0 < len → a0 = some ⟨b, off, none⟩) := ha
  have HG := hideIt hg
  have H4 := hideIt hg.sz
  have HTb := hideIt ht
  obtain ⟨d37, hu37, hd37⟩ := un37
  have HS37 : Hid (∀ v : OpV, (Tryz.prog.info? 37).map (·.size) = some v.arr.toList.length) := fun v => by
    obtain ⟨i8, hi8, hz8, hs8, hb8⟩ := info_parts inf37
    rw [hi8, arr_len]; show some i8.size = _; rw [hs8]
  clear hg ht hops ha hn hmp0 hbm0
  go_enter Tryz.func5, Tryz.ntmps5
  go_wp2_with fail
  go_at_call 10
  refine HSM.out.mono ?_
  rintro e w' ⟨hq, hw'⟩
  obtain rfl := hw'.symm
  clear hw' HSM
  rcases hq with rfl | ⟨rfl, hln⟩
  · go_wp2_with fail
    go_ret
    exact ⟨rfl, Below.refl _ _⟩
  go_wp2_with fail
  go_at_call 27
  refine (HSW.out hln).mono ?_
  rintro e w1 ⟨hb1, ad, c1, rfl, htw⟩
  have HMP1 := hideIt (HMP0.out.below hb1)
  have HB1 := hideIt (HBM0.out.trans (hb1.mono HBM0.out.size))
  have HB2 := hideIt hb1
  have HTW := hideIt htw
  clear hb1 htw HSW HMP0 HBM0
  go_wp2_with fail
  have hS2 := heap_new w1 (.cells #[.slice a0 len cap, .slice ad len c1] 22)
  have hbz := alloc_below (w := w1) (.cells #[.slice a0 len cap, .slice ad len c1] 22)
  have HZl : Hid (Zl w (w1.alloc (.cells #[.slice a0 len cap, .slice ad len c1] 22)) w.heap.size (w.heap.size + 1) w1.heap.size) := by
    have q1 := HMP1.out.m1.lt
    have q2 := HMP1.out.m2.lt
    exact ⟨by omega, by simp, by omega, by omega⟩
  generalize w1.alloc (.cells #[.slice a0 len cap, .slice ad len c1] 22) = wz at *
  have HBZ := hideIt (HB1.out.trans (hbz.mono HB1.out.size))
  have HMZ := hideIt (HMP1.out.below hbz)
  have HOPS : Hid (∀ t, t < 2 → ∃ (ga : Option Addr) (gb go gc : Nat) (f' : Nat → OpV), wz.cell? ⟨w1.heap.size, t, none⟩ = some (.slice ga len gc) ∧ (0 < len → ga = some ⟨gb, go, none⟩ ∧ ∀ i, i < len → OpAt wz gb (go + i * 12) (f' i))) := fun t ht2 => by
    match t, ht2 with
    | 0, _ => exact ⟨a0, b, off, cap, f, box_cell hS2 0, fun hl => ⟨HA.out hl, fun i hi => (HO.out i hi).below HBZ.out⟩⟩
    | 1, _ =>
      by_cases hl : 0 < len
      · obtain ⟨g, rfl, _, _, htw⟩ := HTW.out hl
        exact ⟨_, g, 0, c1, fun p => f (swp len p), box_cell hS2 1, fun _ => ⟨rfl, fun i hi => by rw [Nat.zero_add]; exact (htw i hi).below hbz⟩⟩
      · exact ⟨ad, 0, 0, c1, f, box_cell hS2 1, fun q => absurd q hl⟩
  have HIsM : Hid ((∃ es cl, wz.heap[w.heap.size]? = some (.map es cl)) ∧ ∃ es cl, wz.heap[w.heap.size + 1]? = some (.map es cl)) := ⟨HMZ.out.m1.ismap, HMZ.out.m2.ismap⟩
  clear hS2 hbz HMP1 HB1 HB2 HTW HA HO
  generalize w1.heap.size = S2 at *
  clear w1
  go_loopw [30] (fun v30 W => ∃ (t : Nat) (V : List ((Nat → En) × List Int)), t ≤ 2 ∧ v30 = .int .i64 (t : Int) ∧ V.length ≤ t * 65537 ∧ Out w wz w.heap.size (w.heap.size + 1) V W) (fun i _ => 2 - (intOf i).toNat)
  case atStart => exact ⟨0, [], by omega, rfl, by simp, ⟨HBZ.out, fun b _ => rfl, HMZ.out, Nat.le_refl _⟩⟩
  case round =>
    obtain ⟨t, V, ht2, rfl, hVl, hOut⟩ := hrel
    have HOut := hideIt hOut
    by_cases hlt : t < 2
    · have hlt' : (t : Int) < 2 := by omega
      obtain ⟨ga, gb, go, gc, f', hc, hop⟩ := HOPS.out t hlt
      have c2 : wr.cell? ⟨S2, t, none⟩ = some (.slice ga len gc) := (World.cell?_of_block (hOut.k S2 HZl.out)).trans hc
      have HGW := hideIt (HG.out.below hOut.bel)
      have HOP : Hid (0 < len → ga = some ⟨gb, go, none⟩ ∧ ∀ i, i < len → OpAt wz gb (go + i * 12) (f' i)) := hop
      have HVl : Hid (V.length ≤ 65537) := by show _ ≤ _; omega
      have HVt : Hid (V.length ≤ t * 65537) := hVl
      clear hop hc hOut hVl
      go_wp2_with fail
      go_at_call 11
      refine (New_walk wr).mono ?_
      rintro e w2 ⟨A0, rb, sb, s, rfl, hb2, hz2, hF2, hM2⟩
      have HB2 := hideIt hb2
      have HZ2 := hideIt hz2
      have HF2 := hideIt hF2
      have HM2 := hideIt hM2
      clear hb2 hz2 hF2 hM2
      go_wp2_with fail
      go_at_call 12
      refine (new_m _).mono ?_
      rintro e w3 ⟨rfl, hb3, _, hm3⟩
      obtain ⟨D0, hR0⟩ := R2.init HGW.out HF2.out HB2.out HZ2.out HM2.out hb3 rfl (hm3 M00 (fun _ => 0) (fun i hi => if_pos hi)) rfl
      have HR0 := hideIt (HOut.out.init (Nat.le_refl _) (Nat.le_succ _) (by omega) hR0)
      clear hb3 hm3 HB2 HZ2 HF2 HM2 hR0 c2
      generalize w2.heap.size = B at *
      go_upto_region 9 with fail
      generalize w3.alloc (.cells #[.pointer (some ⟨A0, 0, none⟩)] 24) = w4 at *
      generalize w3.heap.size = P at *
      clear w2 w3
      go_wp2_with fail
      go_loopw [9] (fun v9 W9 => ∃ (j : Nat) (z : Int) (V9 : List ((Nat → En) × List Int)), j ≤ len + 1 ∧ v9 = .int .i64 z ∧ z = (j : Int) - 1 ∧ V9.length = V.length + j ∧ R5 w wz w.heap.size (w.heap.size + 1) P B (trM f' M00 (j - 1)) (trM f' M00 (j - 1)) V9 W9) (fun i _ => len + 1 - (intOf i + 1).toNat)
      case atStart => exact ⟨0, -1, V, by omega, rfl, rfl, rfl, HR0.out⟩
      case round =>
        clear HR0
        obtain ⟨j, z, V9, hj, rfl, hz, hV9, hR⟩ := hrel
        have HVm : Hid (V9.length < maxLen) := by have := HVl.out; show _ < _; unfold maxLen; omega
        by_cases hjl : j ≤ len
        · by_cases hj0 : j = 0
          · subst hj0
            obtain rfl : z = -1 := by omega
            have hlt2 : (-1 : Int) < (len : Int) := by omega
            obtain ⟨Mx, hMx⟩ : ∃ Mx, trM f' M00 0 = Mx := ⟨_, rfl⟩
            have HMx : Hid (trM f' M00 (0 + 1 - 1) = Mx) := hMx
            have HV9 : Hid (V9.length = V.length + 0) := hV9
            have HR : Hid (R5 w wz w.heap.size (w.heap.size + 1) P B Mx Mx V9 wr) := by rw [← hMx]; exact hR
            clear hMx
            clear hR hz hV9
            obtain ⟨A9, hA⟩ := HR.out.asks
            obtain ⟨im, him⟩ := HR.out.sd.snd
            obtain ⟨wb9, hmd⟩ := HR.out.md
            have HIM := hideIt him
            have HSP : Hid (∀ W, Below wr.heap.size wr W → Calls Tryz.prog 28 #[.pointer (some ⟨B, 0, none⟩)] W fun e w' => e = .returned (.string (sM Mx)) ∧ Below W.heap.size W w') := fun W hW => spell_m (hmd.below hW) HR.out.sd.num (HTb.out.below (HR.out.below hW).bel)
            have HEN : Hid (∀ W, Below wr.heap.size wr W → Calls Tryz.prog 13 #[.pointer (some ⟨A9, 0, none⟩)] W (EnPost im W)) := fun W hW => (hA W hW).enc im him
            have HPC : Hid (∀ W, Below wr.heap.size wr W → W.cell? ⟨P, 0, none⟩ = some (.pointer (some ⟨A9, 0, none⟩))) := fun W hW => (hA W hW).pc
            have HCVT : Hid (∀ (W : World) (q : Nat) (cp : Nat), BytesAt W q 0 im → (convert 38 9 (.slice (some ⟨q, 0, none⟩) im.length cp)).run Tryz.prog W = .ok (.string (sI im)) W) := fun W q cp hby => run_convert_bytes_arg (P := Tryz.prog) W 38 5 Tryz.underlying38 Tryz.underlying5 q 0 im.length cp im rfl (fun i hi => (hby i hi).1) 9 Tryz.underlying9
            clear hA him hmd
            go_wp2_with fail
            have pc0 := HPC.out wr (Below.refl _ _)
            have pcd := HPC.out _ (below_d wr)
            go_region_with
              (first
                | (go_at_call 13; first
                  | (refine (HEN.out _ HBs.out).mono ?_; rintro e wL ⟨bv, rfl, hown, hbE⟩; obtain ⟨q6, cp6, rfl, hl6, hc6, _, hq6, hby6⟩ := Own.bytes hown HIM.out.bytes.1 HIM.out.bytes.2; have HBL := hideIt (Below.thr HBs.out hbE); have pcL := HPC.out wL HBL.out; have hcv := HCVT.out wL q6 cp6 hby6; have HLm : Hid (im.length ≤ maxLen) := Nat.le_trans hl6 hc6; clear hown hbE hl6 hc6 hq6 hby6)
                  | (refine (HEN.out _ (below_d _)).mono ?_; rintro e wE ⟨bv, rfl, hown, hbE⟩; obtain ⟨q6, cp6, rfl, hl6, hc6, _, hq6, hby6⟩ := Own.bytes hown HIM.out.bytes.1 HIM.out.bytes.2; have HBe := hideIt (Below.thr (below_d _) hbE); have pcE := HPC.out wE HBe.out; have hcv := HCVT.out wE q6 cp6 hby6; have HBY := hideIt hby6; have HLm : Hid (im.length ≤ maxLen) := Nat.le_trans hl6 hc6; have HQ6 := hideIt hq6; clear hown hbE hl6 hc6 hq6 hby6))
                | (go_at_call 28; first
                  | (refine (HSP.out _ HBe.out).mono ?_; rintro e wL ⟨rfl, hbS⟩; have HBL := hideIt (Below.thr HBe.out hbS); have pcL := HPC.out wL HBL.out; have hcv2 := HCVT.out wL q6 cp6 (bytes_block HBY.out (hbS.block _ HQ6.out)); clear hbS)
                  | (refine (HSP.out _ (below_d _)).mono ?_; rintro e wS ⟨rfl, hbS⟩; have HBs := hideIt (Below.thr (below_d _) hbS); have pcS := HPC.out wS HBs.out; clear hbS)))
            all_goals
              have HR10 := hideIt (HR.out.below HBL.out)
              have HGL := hideIt (HG.out.below HR10.out.bel)
              obtain ⟨v1, ok1, hl1, hq1⟩ := HR10.out.mp.look1 HIM.out
              obtain ⟨v2, ok2, hl2, hq2⟩ := HR10.out.mp.look2 HIM.out HGL.out HLm.out
              obtain ⟨W11, hu1, W12, hu2, hR12⟩ := HR10.out.store H4.out HIM.out HGL.out HLm.out HVm.out
              have HR12 := hideIt hR12
              clear hR12 HR10 HGL HSP HEN HPC HCVT HR
              clear pc0 pcd pcL
              try clear pcE
              try clear pcS
              try clear hcv
              try clear hcv2
              generalize sM Mx = sm at *
              generalize sI im = si at *
              cases ok1
              · cases ok2
                · clear hq1 hq2
                  go_wp2_with fail
                  go_roundw
                  case rel => exact ⟨0 + 1, 0, (Mx, im) :: V9, by omega, by first | rfl | go_num, by omega, by (rw [List.length_cons, HV9.out] <;> omega), by rw [HMx.out]; exact HR12.out⟩
                  case measure => first | (simp [intOf]; done) | (simp [intOf]; omega)
                · obtain rfl := hq2 rfl
                  clear hq1 hq2
                  go_wp2_with fail
                  go_roundw
                  case rel => exact ⟨0 + 1, 0, (Mx, im) :: V9, by omega, by first | rfl | go_num, by omega, by (rw [List.length_cons, HV9.out] <;> omega), by rw [HMx.out]; exact HR12.out⟩
                  case measure => first | (simp [intOf]; done) | (simp [intOf]; omega)
              · obtain rfl := hq1 rfl
                cases ok2
                · clear hq1 hq2
                  go_wp2_with fail
                  go_roundw
                  case rel => exact ⟨0 + 1, 0, (Mx, im) :: V9, by omega, by first | rfl | go_num, by omega, by (rw [List.length_cons, HV9.out] <;> omega), by rw [HMx.out]; exact HR12.out⟩
                  case measure => first | (simp [intOf]; done) | (simp [intOf]; omega)
                · obtain rfl := hq2 rfl
                  clear hq1 hq2
                  go_wp2_with fail
                  go_roundw
                  case rel => exact ⟨0 + 1, 0, (Mx, im) :: V9, by omega, by first | rfl | go_num, by omega, by (rw [List.length_cons, HV9.out] <;> omega), by rw [HMx.out]; exact HR12.out⟩
                  case measure => first | (simp [intOf]; done) | (simp [intOf]; omega)
          · obtain ⟨i, rfl⟩ : ∃ i, j = i + 1 := ⟨j - 1, by omega⟩
            obtain rfl : z = (i : Int) := by omega
            have hi : i < len := by omega
            have hlt2 : (i : Int) < (len : Int) := by omega
            obtain ⟨hga, hop⟩ := HOP.out (by omega)
            subst hga
            have HF1 : Hid (∀ M N V W, R5 w wz w.heap.size (w.heap.size + 1) P B M N V W → OpAt W gb (go + i * 12) (f' i)) := fun M N V W h => (hop i hi).keepC h.sz (h.cells HBZ.out HIsM.out.1 HIsM.out.2)
            have hR' : R5 w wz w.heap.size (w.heap.size + 1) P B (trM f' M00 i) (trM f' M00 i) V9 wr := hR
            have HP : Hid (Calls Tryz.prog 17 #[.pointer (some ⟨P, 0, none⟩), .agg (f' i).arr.toList.toArray] wr fun e w' => (∃ r, e = .returned r) ∧ R5 w wz w.heap.size (w.heap.size + 1) P B (stepX (trM f' M00 i) (f' i)).2 (trM f' M00 i) V9 w') := by show Calls _ _ _ _ _; rw [Array.toArray_toList]; exact hR'.play (f' i) (HF1.out _ _ _ _ hR')
            have HST : Hid (∀ W, R5 w wz w.heap.size (w.heap.size + 1) P B (stepX (trM f' M00 i) (f' i)).2 (trM f' M00 i) V9 W → Calls Tryz.prog 19 #[.pointer (some ⟨B, 0, none⟩), .agg (f' i).arr.toList.toArray] W fun e w' => (∃ r, e = .returned r) ∧ R5 w wz w.heap.size (w.heap.size + 1) P B (stepX (trM f' M00 i) (f' i)).2 (stepX (trM f' M00 i) (f' i)).2 V9 w') := fun W h => by rw [Array.toArray_toList]; exact h.step H4.out (f' i) (HF1.out _ _ _ _ h) rfl
            have HX1 : Hid (wr.rangeAt gb (go + i * 12) (f' i).arr.toList) := (HF1.out _ _ _ _ hR').rng
            have HXW : Hid (∀ W, R5 w wz w.heap.size (w.heap.size + 1) P B (stepX (trM f' M00 i) (f' i)).2 (trM f' M00 i) V9 W → W.rangeAt gb (go + i * 12) (f' i).arr.toList) := fun W h => (HF1.out _ _ _ _ h).rng
            have HI1 := hideIt (HS37.out (f' i))
            have HMx : Hid (trM f' M00 (i + 1 + 1 - 1) = (stepX (trM f' M00 i) (f' i)).2) := rfl
            have HV9 : Hid (V9.length = V.length + (i + 1)) := hV9
            clear hR hR' hz hV9 HF1 hop
            generalize (stepX (trM f' M00 i) (f' i)).2 = Mx at *
            generalize trM f' M00 i = My at *
            generalize (f' i).arr.toList = o1 at *
            go_wp2_with (refine wpList_load_mid rfl 37 (.tmp 46) rfl gb (go + i * 12) rfl o1 d37 HX1.out hu37 hd37 HI1.out ?_)
            go_at_call 17
            refine HP.out.mono ?_
            rintro e w5 ⟨⟨r5, rfl⟩, hR5⟩
            have HX2 := hideIt (HXW.out w5 hR5)
            have HST5 := hideIt (HST.out w5 hR5)
            clear hR5 HP HST HX1 HXW
            go_wp2_with (refine wpList_load_mid rfl 37 (.tmp 52) rfl gb (go + i * 12) rfl o1 d37 HX2.out hu37 hd37 HI1.out ?_)
            go_at_call 19
            refine HST5.out.mono ?_
            rintro e w6 ⟨⟨r6, rfl⟩, hR6⟩
            have HR := hideIt hR6
            clear hR6 HST5 HX2 HI1
            obtain ⟨A9, hA⟩ := HR.out.asks
            obtain ⟨im, him⟩ := HR.out.sd.snd
            obtain ⟨wb9, hmd⟩ := HR.out.md
            have HIM := hideIt him
            have HSP : Hid (∀ W, Below w6.heap.size w6 W → Calls Tryz.prog 28 #[.pointer (some ⟨B, 0, none⟩)] W fun e w' => e = .returned (.string (sM Mx)) ∧ Below W.heap.size W w') := fun W hW => spell_m (hmd.below hW) HR.out.sd.num (HTb.out.below (HR.out.below hW).bel)
            have HEN : Hid (∀ W, Below w6.heap.size w6 W → Calls Tryz.prog 13 #[.pointer (some ⟨A9, 0, none⟩)] W (EnPost im W)) := fun W hW => (hA W hW).enc im him
            have HPC : Hid (∀ W, Below w6.heap.size w6 W → W.cell? ⟨P, 0, none⟩ = some (.pointer (some ⟨A9, 0, none⟩))) := fun W hW => (hA W hW).pc
            have HCVT : Hid (∀ (W : World) (q : Nat) (cp : Nat), BytesAt W q 0 im → (convert 38 9 (.slice (some ⟨q, 0, none⟩) im.length cp)).run Tryz.prog W = .ok (.string (sI im)) W) := fun W q cp hby => run_convert_bytes_arg (P := Tryz.prog) W 38 5 Tryz.underlying38 Tryz.underlying5 q 0 im.length cp im rfl (fun i hi => (hby i hi).1) 9 Tryz.underlying9
            clear hA him hmd
            go_wp2_with fail
            have pc0 := HPC.out w6 (Below.refl _ _)
            have pcd := HPC.out _ (below_d w6)
            go_region_with
              (first
                | (go_at_call 13; first
                  | (refine (HEN.out _ HBs.out).mono ?_; rintro e wL ⟨bv, rfl, hown, hbE⟩; obtain ⟨q6, cp6, rfl, hl6, hc6, _, hq6, hby6⟩ := Own.bytes hown HIM.out.bytes.1 HIM.out.bytes.2; have HBL := hideIt (Below.thr HBs.out hbE); have pcL := HPC.out wL HBL.out; have hcv := HCVT.out wL q6 cp6 hby6; have HLm : Hid (im.length ≤ maxLen) := Nat.le_trans hl6 hc6; clear hown hbE hl6 hc6 hq6 hby6)
                  | (refine (HEN.out _ (below_d _)).mono ?_; rintro e wE ⟨bv, rfl, hown, hbE⟩; obtain ⟨q6, cp6, rfl, hl6, hc6, _, hq6, hby6⟩ := Own.bytes hown HIM.out.bytes.1 HIM.out.bytes.2; have HBe := hideIt (Below.thr (below_d _) hbE); have pcE := HPC.out wE HBe.out; have hcv := HCVT.out wE q6 cp6 hby6; have HBY := hideIt hby6; have HLm : Hid (im.length ≤ maxLen) := Nat.le_trans hl6 hc6; have HQ6 := hideIt hq6; clear hown hbE hl6 hc6 hq6 hby6))
                | (go_at_call 28; first
                  | (refine (HSP.out _ HBe.out).mono ?_; rintro e wL ⟨rfl, hbS⟩; have HBL := hideIt (Below.thr HBe.out hbS); have pcL := HPC.out wL HBL.out; have hcv2 := HCVT.out wL q6 cp6 (bytes_block HBY.out (hbS.block _ HQ6.out)); clear hbS)
                  | (refine (HSP.out _ (below_d _)).mono ?_; rintro e wS ⟨rfl, hbS⟩; have HBs := hideIt (Below.thr (below_d _) hbS); have pcS := HPC.out wS HBs.out; clear hbS)))
            all_goals
              have HR10 := hideIt (HR.out.below HBL.out)
              have HGL := hideIt (HG.out.below HR10.out.bel)
              obtain ⟨v1, ok1, hl1, hq1⟩ := HR10.out.mp.look1 HIM.out
              obtain ⟨v2, ok2, hl2, hq2⟩ := HR10.out.mp.look2 HIM.out HGL.out HLm.out
              obtain ⟨W11, hu1, W12, hu2, hR12⟩ := HR10.out.store H4.out HIM.out HGL.out HLm.out HVm.out
              have HR12 := hideIt hR12
              clear hR12 HR10 HGL HSP HEN HPC HCVT HR
              clear pc0 pcd pcL
              try clear pcE
              try clear pcS
              try clear hcv
              try clear hcv2
              generalize sM Mx = sm at *
              generalize sI im = si at *
              cases ok1
              · cases ok2
                · clear hq1 hq2
                  go_wp2_with fail
                  go_roundw
                  case rel => exact ⟨(i + 1) + 1, ((i + 1 : Nat) : Int), (Mx, im) :: V9, by omega, by first | rfl | go_num, by omega, by (rw [List.length_cons, HV9.out] <;> omega), by rw [HMx.out]; exact HR12.out⟩
                  case measure => first | (simp [intOf]; done) | (simp [intOf]; omega)
                · obtain rfl := hq2 rfl
                  clear hq1 hq2
                  go_wp2_with fail
                  go_roundw
                  case rel => exact ⟨(i + 1) + 1, ((i + 1 : Nat) : Int), (Mx, im) :: V9, by omega, by first | rfl | go_num, by omega, by (rw [List.length_cons, HV9.out] <;> omega), by rw [HMx.out]; exact HR12.out⟩
                  case measure => first | (simp [intOf]; done) | (simp [intOf]; omega)
              · obtain rfl := hq1 rfl
                cases ok2
                · clear hq1 hq2
                  go_wp2_with fail
                  go_roundw
                  case rel => exact ⟨(i + 1) + 1, ((i + 1 : Nat) : Int), (Mx, im) :: V9, by omega, by first | rfl | go_num, by omega, by (rw [List.length_cons, HV9.out] <;> omega), by rw [HMx.out]; exact HR12.out⟩
                  case measure => first | (simp [intOf]; done) | (simp [intOf]; omega)
                · obtain rfl := hq2 rfl
                  clear hq1 hq2
                  go_wp2_with fail
                  go_roundw
                  case rel => exact ⟨(i + 1) + 1, ((i + 1 : Nat) : Int), (Mx, im) :: V9, by omega, by first | rfl | go_num, by omega, by (rw [List.length_cons, HV9.out] <;> omega), by rw [HMx.out]; exact HR12.out⟩
                  case measure => first | (simp [intOf]; done) | (simp [intOf]; omega)
        · obtain rfl : j = len + 1 := by omega
          obtain rfl : z = (len : Int) := by omega
          have HV9 : Hid (V9.length = V.length + (len + 1)) := hV9
          have HR : Hid (R5 w wz w.heap.size (w.heap.size + 1) P B (trM f' M00 len) (trM f' M00 len) V9 wr) := hR
          generalize trM f' M00 len = Mx at *
          obtain ⟨A9, hA⟩ := HR.out.asks
          obtain ⟨im, him⟩ := HR.out.sd.snd
          have HIM := hideIt him
          have pc := (hA wr (Below.refl _ _)).pc
          have HEN := hideIt ((hA wr (Below.refl _ _)).enc im him)
          clear hA him hR hz hV9
          go_wp2_with fail
          go_at_call 13
          refine HEN.out.mono ?_
          rintro e wE ⟨bv, rfl, hown, hbE⟩
          obtain ⟨q6, cp6, rfl, hl6, hc6, _, hq6, hby6⟩ := Own.bytes hown HIM.out.bytes.1 HIM.out.bytes.2
          have HRE := hideIt (HR.out.below hbE)
          have HDE := hideIt (HIM.out.decode hby6 hl6 hc6 hq6 (HG.out.below HRE.out.bel))
          clear hown hbE hl6 hc6 hq6 hby6 HEN pc HR
          go_wp2_with fail
          go_at_call 29
          refine HDE.out.mono ?_
          rintro e wF ⟨v, rfl, hbF, A, rb, sb, s2, tl2, ws2, L2, n2, rfl, m1, m2, m3, m4⟩
          have HRF := hideIt (HRE.out.below hbF)
          have hgF := HG.out.below HRF.out.bel
          have HOB : Hid (Calls Tryz.prog 21 #[.pointer (some ⟨A, 0, none⟩)] wF (ObP Mx wF)) := by show Calls _ _ _ _ _; rw [← m3]; exact observe_x m1 m2 hgF.kd hgF.kl
          clear hbF m1 m2 m3 m4 hgF HDE HRE
          go_wp2_with fail
          go_at_call 21
          refine HOB.out.mono ?_
          rintro e wG ⟨B9, wb9, rfl, hmd9, _, hbG⟩
          have HRG := hideIt (HRF.out.below hbG)
          obtain ⟨wbm, hmdm⟩ := HRG.out.md
          have HSA := hideIt (modelSame hmd9 hmdm HRG.out.sd.num)
          clear hmd9 hmdm hbG HOB HRF
          go_wp2_with fail
          go_at_call 30
          refine HSA.out.mono ?_
          rintro e wH ⟨rfl, hbH⟩
          have HRH := hideIt (HRG.out.below hbH)
          clear hbH HSA HRG
          go_wp2_with fail
          go_roundw
          case rel => exact ⟨t + 1, V9, by omega, by go_num, by have := HVt.out; rw [HV9.out]; omega, HRH.out.out⟩
          case measure => simp [intOf]; omega
    · obtain rfl : t = 2 := by omega
      have HF := hideIt HOut.out.bel
      go_wp2_with fail
      go_ret
      exact ⟨rfl, HF.out⟩
end Go.Proofs.Qxb6500847aGreatDoor.Os
