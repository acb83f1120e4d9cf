/-
  The abstract model: reclaim.
-/
import Derived.Test.Qxb6500847aGreatDoorMdJ
import Derived.Test.Qxb6500847aGreatDoorMdIa
import Derived.Test.Qxb6500847aGreatDoorMdX
import Derived.Test.Qxb6500847aGreatDoorMdK
namespace Go.Proofs.Qxb6500847aGreatDoor.Os
open Go.RowKit FloorA
set_option maxRecDepth 100000
section
variable {w w' : World} {B : Nat} {wb : Nat → Nat} {M : Nat → En}
set_option maxHeartbeats 4000000 in
theorem reclaim_m (h : Md w B wb M) (hM : Mk M) (hU : ∀ j, j < 320 → (M j).typ ≠ 0 → ∃ l, Up M (M j).par l) (hz9 : ∀ j, 320 ≤ j → (M j).typ = 0) (i : Nat) (h6 : i < 65536) (g : Int) :
    Calls Tryz.prog 74 #[.pointer (some ⟨B, 0, none⟩), .agg #[.int .u16 (i : Int), .int .u32 g]] w (MsP B wb M (recX M i g) w) := by
  have hb0 := stW_below i g w
  obtain ⟨x0, x1, _, _⟩ := two_cells (stW_r i g w)
  have HR := hideIt (stW_r i g w)
  have HS := hideIt (stW_s i g w)
  have H0 := hideIt h
  have HM := hideIt (h.below hb0)
  have HMk := hideIt hM
  have HB := hideIt hb0
  have HC := hideIt (checkR_m HM.out i h6 g)
  obtain ⟨X, hX⟩ : ∃ X, X = (recX M i g) := ⟨_, rfl⟩
  rw [← hX]
  have HX := hideIt hX
  clear h hb0 hM hX
  by_cases hc : chkR M i g = 0
  · have hi : i < 320 := by
      unfold chkR at hc
      by_cases q : chk M i g ≠ 0
      · rw [if_pos q] at hc; exact absurd hc q
      · exact (chk_lt (by simpa using q)).1
    have i3 : (i : Int) < 320 := by omega
    obtain ⟨j3, hi3, hz3, hs3, hb3⟩ := info_parts inf3
    rw [hc] at HC
    have HCK : Hid (chkR M i g = 0) := hc
    have i6 : wrap64 (i : Int) = (i : Int) := by unfold wrap64; omega
    clear hc
    go_enter Tryz.func74, Tryz.ntmps74
    go_upto_region 1 with fail
    rw [show (w.alloc (.cells #[.int .u16 (i : Int), .int .u32 g] 32)).alloc (.cells #[.int .u8 0, .slice none 0 0, .slice none 0 0] 57) = stW i g w from rfl]
    generalize stW i g w = w0 at *
    go_wp2_with fail
    go_at_call 214
    refine HC.out.mono ?_
    rintro e w1 ⟨rfl, hb1⟩
    have hr1 := (hb1.block _ (heap_lt HR.out)).trans HR.out
    obtain ⟨y0, y1, _, _⟩ := two_cells hr1
    have HB1 := hideIt (Below.thr HB.out hb1)
    have HM1 := hideIt (HM.out.below hb1)
    have HS1 := hideIt ((hb1.block _ (heap_lt HS.out)).trans HS.out)
    have HR1 := hideIt hr1
    clear hb1 hr1 x0 x1 HC HM HS HR HB
    have HX3 : Hid (X = (⟨0, [], [((dmL M i 320).length : Int)]⟩, drF M (dmL M i 320))) := by
      show X = _
      rw [HX.out]
      unfold recX cntB
      rw [if_neg (by rw [HCK.out]; simp), dmL_cnt, drF_emp M i hz9]
    have HBl0 := hideIt (fun (j : Nat) (hj : j < 320) (ht : (M j).typ ≠ 0) w' (hb : Below w1.heap.size w1 w') => below_m (i := i) (HM1.out.below hb) hj (Classical.choose_spec (hU j hj ht)))
    have HBi := hideIt (fun (j : Nat) (hj : j < 320) (ht : (M j).typ ≠ 0) => bl_mem hi (Classical.choose_spec (hU j hj ht)))
    clear HX hz9 y0 y1
    go_wp2_with fail
    go_loopw [6, 17] (fun v6 v17 wr => ∃ k : Nat, k ≤ 320 ∧ v17 = .int .i64 (k : Int) ∧ IOwn w1.heap.size wr v6 (dmL M i k) ∧ Below w1.heap.size w1 wr) (fun _ j _ => 320 - (intOf j).toNat)
    case atStart => exact ⟨0, by omega, rfl, IOwn.nil _ _, Below.refl _ _⟩
    case round =>
      obtain ⟨k, hk, rfl, hown, hbr⟩ := hrel
      have HO := hideIt hown
      have HBr := hideIt hbr
      by_cases hlt : k < 320
      · have hlt' : (k : Int) < 320 := by omega
        have hm := HM1.out.below hbr
        have HL := hideIt (live_m hm hlt)
        have hr2 := (hbr.block _ (heap_lt HR1.out)).trans HR1.out
        obtain ⟨y0, y1, _, _⟩ := two_cells hr2
        clear hown hm hr2
        by_cases ht : (M k).typ = 0
        · have hd : decide ((M k).typ ≠ 0) = false := by simp [ht]
          rw [hd] at HL
          have HS9 := hideIt (dmL_neg (M := M) (p := i) (k := k) (fun q => q.1 ht))
          clear hd ht hbr
          go_wp2_with (go_at_call 203; refine HL.out.mono ?_; rintro e w' ⟨rfl, hw'⟩; obtain rfl := hw'.symm)
          go_roundw
          case rel => exact ⟨k + 1, by omega, by go_num, by rw [HS9.out]; exact HO.out, HBr.out⟩
          case measure => simp [intOf]; omega
        · have hd : decide ((M k).typ ≠ 0) = true := by simp [ht]
          rw [hd] at HL
          have hbi := HBi.out k hlt ht
          have HBl := hideIt (HBl0.out k hlt ht wr hbr)
          generalize Classical.choose (hU k hlt ht) = l0 at *
          by_cases hq : i ∈ l0
          · have hdq : decide (i ∈ l0) = true := by simp [hq]
            rw [hdq] at HBl
            have HS9 := hideIt (dmL_pos ⟨ht, hbi.2 hq⟩)
            have HLn := hideIt (dmL_le M i k)
            have HBw := hideIt HBr.out.size
            clear hd ht hbr hbi hq hdq
            go_wp2_with (first | (go_at_call 203; refine HL.out.mono ?_; rintro e w' ⟨rfl, hw'⟩; obtain rfl := hw'.symm) | (go_at_call 215; refine HBl.out.mono ?_; rintro e w' ⟨rfl, hw'⟩; obtain rfl := hw'.symm) | (at_builtin; refine wpList_append_own_at _ rfl (.tmp 31) (.tmp 33) 209 rfl w1.heap.size 3 j3 (.int .i64 0) 1 8 Tryz.underlying209 hi3 hz3 hs3 hb3 rfl (by decide) _ _ _ rfl (World.ownsRow.alloc HO.out _) ⟨wr.heap.size, 0, none⟩ 1 1 [.int .i64 (k : Int)] rfl rfl (cell_one_new wr _ _) (one_i _) (by have := HLn.out; unfold maxLen; omega) (by have := HLn.out; omega) (by have := HBw.out; simp; omega) ?_; intro v' w8 hown8 hgrow8 _ hwh8; have HB8 := hideIt (HBr.out.trans (Grown.below HBw.out hgrow8 (fun b hb => (owns_lt HO.out b hb).1))); have HO8 := hideIt hown8; clear hown8 hgrow8 hwh8))
            go_roundw
            case rel => exact ⟨k + 1, by omega, by go_num, by rw [HS9.out]; unfold IOwn; rw [ILs_snoc, List.length_append]; exact HO8.out, HB8.out⟩
            case measure => simp [intOf]; omega
          · have hdq : decide (i ∈ l0) = false := by simp [hq]
            rw [hdq] at HBl
            have HS9 := hideIt (dmL_neg (M := M) (p := i) (k := k) (fun q => hq (hbi.1 q.2)))
            clear hd ht hbr hbi hq hdq
            go_wp2_with (first | (go_at_call 203; refine HL.out.mono ?_; rintro e w' ⟨rfl, hw'⟩; obtain rfl := hw'.symm) | (go_at_call 215; refine HBl.out.mono ?_; rintro e w' ⟨rfl, hw'⟩; obtain rfl := hw'.symm))
            go_roundw
            case rel => exact ⟨k + 1, by omega, by go_num, by rw [HS9.out]; exact HO.out, HBr.out⟩
            case measure => simp [intOf]; omega
      · have hkn : k = 320 := by omega
        have hk3 : (k : Int) = 320 := by omega
        rw [hkn] at HO
        rw [hk3]
        clear hk3 hkn hlt hk
        have HD := hideIt (fun j => (dmL_mem M i 320 j))
        have HNd := hideIt (dmL_nd M i 320)
        have HLn := hideIt (dmL_le M i 320)
        obtain ⟨d, hd⟩ : ∃ d, d = dmL M i 320 := ⟨_, rfl⟩
        rw [← hd] at HO HX3 HD HNd HLn
        obtain ⟨ad, cp, hf⟩ := HO.out.form
        subst hf
        have HM2 := hideIt (HM1.out.below hbr)
        have HB2 := hideIt (Below.thr HB1.out hbr)
        have HS2 := hideIt ((hbr.block _ (heap_lt HS1.out)).trans HS1.out)
        have HBz := hideIt (HM1.out.lt)
        obtain ⟨W, hW⟩ : ∃ W, W = wr := ⟨_, rfl⟩
        subst hW
        clear hown hbr hd HBl0 HBi HBr
        go_wp2_with fail
        go_loopw [38] (fun v38 wr => ∃ k : Nat, k ≤ d.length ∧ v38 = .int .i64 (k : Int) ∧ Md wr B wb (drF M (d.take k)) ∧ Ext W.heap.size (fun b => b = B) W wr) (fun j _ => d.length - (intOf j).toNat)
        case atStart => exact ⟨0, Nat.zero_le _, rfl, by rw [List.take_zero, drF_nil]; exact HM2.out, Ext.refl _ _ _⟩
        case round =>
          obtain ⟨k, hk, rfl, hmd, hex⟩ := hrel
          have hln := HLn.out
          by_cases hlt : k < d.length
          · have hlt' : (k : Int) < (d.length : Int) := by omega
            obtain ⟨gg, cg, eg, g1, g2, _, hcl⟩ := HO.out.at (by omega)
            obtain ⟨rfl, rfl⟩ : ad = some ⟨gg, 0, none⟩ ∧ cp = cg := by
              injection eg with e1 e2 e3
              exact ⟨e1, e3⟩
            obtain ⟨u, hu⟩ : ∃ u, d[k]? = some u := ⟨_, List.getElem?_eq_getElem hlt⟩
            obtain ⟨hu3, hut, _⟩ := (HD.out u).1 (List.mem_of_getElem? hu)
            have cu := (hex.cell (p := ⟨gg, k, none⟩) g2 (by have := HBz.out; show ¬ gg = B; omega)).trans (hcl k u hu)
            have hni : u ∉ d.take k := fun q => by
              obtain ⟨m, hm⟩ := List.getElem?_of_mem q
              have hmk : m < k := by have := (List.getElem?_eq_some_iff.1 hm).1; rw [List.length_take] at this; omega
              rw [List.getElem?_take_of_lt hmk] at hm
              have := (List.getElem?_inj (by omega) HNd.out).1 (hm.trans hu.symm)
              omega
            have htk : d.take (k + 1) = d.take k ++ [u] := by
              rw [List.take_succ_eq_append_getElem hlt]
              rw [List.getElem?_eq_getElem hlt] at hu
              rw [Option.some.inj hu]
            have hsn := drF_snoc (M := M) hni
            rw [← htk] at hsn
            have hgo : drF M (d.take k) u = M u := drF_out hni
            have hgl := HMk.out.lg u hu3 hut
            obtain ⟨gn, egn, _⟩ := HMk.out.gen u hu3
            have HDr := hideIt (drop_g hmd ⟨gn, by rw [hgo]; exact egn⟩ hu3 (by rw [hgo]; exact hgl))
            rw [hsn] at HDr
            have HEx := hideIt hex
            clear hcl eg hu hmd hex hni htk hsn hgo hgl egn
            go_wp2_with (go_at_call 213; refine HDr.out.mono ?_; rintro e w6 ⟨rfl, hm6, he6⟩; have HM6 := hideIt hm6; have HE6 := hideIt (HEx.out.trans he6 HEx.out.size (fun _ _ q => q)); clear hm6 he6)
            go_roundw
            case rel => exact ⟨k + 1, by omega, by go_num, HM6.out, HE6.out⟩
            case measure => simp [intOf]; omega
          · have hkl : k = d.length := by omega
            subst hkl
            rw [List.take_length] at hmd
            have hne : ¬ w.heap.size + 1 = B := by have := H0.out.lt; omega
            have hs5 := (hex.block (w.heap.size + 1) (heap_lt HS2.out) hne).trans HS2.out
            have HS5 := hideIt hs5
            have hs6 := (heap_alloc_old wr (.cells #[.int .u64 (d.length : Int)] 34) (heap_lt hs5)).trans hs5
            obtain ⟨r0, r1, r2, f0, f1, f2⟩ := three_cells hs6
            have hdw : IntKind.u64.wrap (d.length : Int) = (d.length : Int) := u64_same (by omega) (by omega)
            have HZ := hideIt (three_set hs6 (.int .u8 0) (.slice none 0 0) (.slice (some ⟨wr.heap.size, 0, none⟩) 1 1))
            have HF : Hid (MsP B wb M X w (.returned (.agg #[.int .u8 0, .slice none 0 0, .slice (some ⟨wr.heap.size, 0, none⟩) 1 1])) ((((wr.alloc (.cells #[.int .u64 (d.length : Int)] 34)).setCell ⟨w.heap.size + 1, 0, none⟩ (.int .u8 0)).setCell ⟨w.heap.size + 1, 1, none⟩ (.slice none 0 0)).setCell ⟨w.heap.size + 1, 2, none⟩ (.slice (some ⟨wr.heap.size, 0, none⟩) 1 1))) := by
              show MsP _ _ _ _ _ _ _
              rw [HX3.out]
              have e1 : Ext w.heap.size (Tm B wb M) w wr := (Ext.of_below HB2.out _).trans hex HB2.out.size (fun b _ q => Or.inl q)
              refine MsP.chg (X := ⟨0, [], [(d.length : Int)]⟩) (hmd.below (alloc_below _)) (e1.andThen (alloc_below _) e1.size) (Nat.le_succ _) (fun b hb => ?_) rfl (IsR.nil _ _) (isU_new (l := [(d.length : Int)]) (heap_new _ _) (by have := heap_lt hs5; omega)) (.int .u8 0) (.slice none 0 0) (.slice (some ⟨wr.heap.size, 0, none⟩) 1 1)
              have hb2 := drF_tm hb
              have := H0.out.tlt hb2
              exact ⟨by omega, Or.inl hb2⟩
            clear hmd hex hs5 hs6
            generalize d.length = dl at *
            go_wp2_with fail
            refine bodyPost_ret (v := .agg #[.int .u8 0, (.slice none 0 0), (.slice (some ⟨wr.heap.size, 0, none⟩) 1 1)]) ?_ rfl HF.out
            exact results_cell_row (by exact Tryz.results74) _ _ (w.heap.size + 1) _ _ _ _ (by rfl) (by exact HZ.out) Tryz.underlying57 rfl (by kernel_rfl)
  · have hX2 : X = (bad (chkR M i g), M) := by rw [HX.out]; unfold recX; rw [if_pos hc]
    have HX2 := hideIt hX2
    have hcb : (chkR M i g != 0) = true := by rw [bne_iff_ne]; exact hc
    clear hX2 hc HX
    generalize chkR M i g = c at *
    go_enter Tryz.func74, Tryz.ntmps74
    go_upto_region 1 with fail
    rw [show (w.alloc (.cells #[.int .u16 (i : Int), .int .u32 g] 32)).alloc (.cells #[.int .u8 0, .slice none 0 0, .slice none 0 0] 57) = stW i g w from rfl]
    generalize stW i g w = w0 at *
    go_wp2_with fail
    go_at_call 214
    refine HC.out.mono ?_
    rintro e w1 ⟨rfl, hb1⟩
    have HB1 := hideIt (Below.thr HB.out hb1)
    have HS1 := hideIt ((hb1.block _ (heap_lt HS.out)).trans HS.out)
    clear hb1 x0 x1 HC HM HS HR HB
    go_wp2_with (go_at_call 90; refine (fail_m _ _).mono ?_; rintro e w3 ⟨rfl, hb3⟩; have hs3 := (hb3.block _ (heap_lt HS1.out)).trans HS1.out; obtain ⟨q0, q1, q2, k0, k1, k2⟩ := three_cells hs3; have HZ := hideIt (three_set hs3 (.int .u8 c) (.slice none 0 0) (.slice none 0 0)); have HF := hideIt (MsP.bad H0.out ((((Below.thr HB1.out hb3).setCell (p := ⟨w.heap.size + 1, 0, none⟩) (Nat.le_succ _) (.int .u8 c)).setCell (p := ⟨w.heap.size + 1, 1, none⟩) (Nat.le_succ _) (.slice none 0 0)).setCell (p := ⟨w.heap.size + 1, 2, none⟩) (Nat.le_succ _) (.slice none 0 0)) HX2.out); clear hb3 hs3)
    refine bodyPost_ret (v := .agg #[.int .u8 c, (.slice none 0 0), (.slice none 0 0)]) ?_ rfl HF.out
    exact results_cell_row (by exact Tryz.results74) _ _ (w.heap.size + 1) _ _ _ _ (by rfl) (by exact HZ.out) Tryz.underlying57 rfl (by kernel_rfl)
end
end Go.Proofs.Qxb6500847aGreatDoor.Os
