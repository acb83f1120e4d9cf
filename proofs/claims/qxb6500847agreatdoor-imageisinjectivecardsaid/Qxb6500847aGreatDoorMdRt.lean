/-
  The abstract model: retype.
-/
import Derived.Test.Qxb6500847aGreatDoorMdRa
import Derived.Test.Qxb6500847aGreatDoorMdM
namespace Go.Proofs.Qxb6500847aGreatDoor.Os
open Go.RowKit FloorA
set_option maxRecDepth 100000
section
variable {s : Av} {tl : Nat → List Int} {ws : Nat → Nat → Nat → Int} {L : Nat → List Nat} {n : Nat} {w : World} {B : Nat} {wb : Nat → Nat}
set_option maxHeartbeats 16000000 in
theorem retype_m (h : Md w B wb (ob s ws)) (hS : Sd s tl ws L n) {i t bt k : Nat} {g : Int} (h6 : i < 65536) (hbt : bt < 256) (hk6 : k < 65536) :
    Calls Tryz.prog 71 #[.pointer (some ⟨B, 0, none⟩), .agg #[.int .u16 (i : Int), .int .u32 g], .int .u8 (t : Int), .int .u8 (bt : Int), .int .i64 (k : Int)] w (MsP B wb (ob s ws) (retX (ob s ws) i g t bt k) w) := by
  have hb0 := stW_below i g w
  obtain ⟨x0, x1, _, _⟩ := two_cells (stW_r i g w)
  have HR := hideIt (stW_r i g w)
  have HS := hideIt (stW_s i g w)
  have H0 := hideIt h
  have HM := hideIt (h.below hb0)
  have HSd := hideIt hS
  have HMk := hideIt hS.num
  have HB := hideIt hb0
  have HC := hideIt (mayRetype_m HM.out hS (i := i) (t := t) (bt := bt) (k := k) (g := g) h6 hbt hk6)
  have HSzf := hideIt (fun w => sizeOf_m w (t := t) hbt)
  obtain ⟨X, hX⟩ : ∃ X, X = retX (ob s ws) i g t bt k := ⟨_, rfl⟩
  rw [← hX]
  have HX := hideIt hX
  clear h hb0 hX hS
  obtain ⟨W0, hW0⟩ : ∃ W0, W0 = stW i g w := ⟨_, rfl⟩
  rw [← hW0] at x0 x1 HR HS HM HB HC
  by_cases hc : mrM (ob s ws) i g t bt k = 0
  · obtain ⟨m1, m2, m3, m4, m5, _⟩ := mrM_facts hc
    have hX2 := retX_good hc
    have hcr : chkR (ob s ws) i g = 0 ∧ szC t bt = 0 := by
      unfold plM at m1
      by_cases q : chkR (ob s ws) i g ≠ 0
      · rw [if_pos q] at m1; exact absurd m1 q
      · rw [if_neg q] at m1; exact ⟨by simpa using q, m1⟩
    have hreg := HSd.out.reg hcr.1
    have hsc := hcr.2
    obtain ⟨T, E, hT, hE, hTE, hE2⟩ := HSd.out.ends hreg
    have hi := hreg.2.1
    have i3 : (i : Int) < 320 := by omega
    have i6 : wrap64 (i : Int) = (i : Int) := by unfold wrap64; omega
    rw [hc] at HC
    clear hc hcr
    obtain ⟨i2, hi2, hz2, hs2, hb2⟩ := info_parts inf32m
    go_enter Tryz.func71, Tryz.ntmps71
    go_upto_region 1 with fail
    rw [show (w.alloc (.cells #[.int .u16 (i : Int), .int .u32 g] 32)).alloc (.cells #[.int .u8 0, .slice none 0 0, .slice none 0 0] 57) = W0 from hW0.symm]
    clear hW0
    go_wp2_with fail
    go_at_call 207
    refine HC.out.mono ?_
    rintro e w1 ⟨rfl, hb1⟩
    have hr1 := (hb1.block _ (heap_lt HR.out)).trans HR.out
    have HB1 := hideIt (Below.thr HB.out hb1)
    have HM1 := hideIt (HM.out.below hb1)
    have HS1 := hideIt ((hb1.block _ (heap_lt HS.out)).trans HS.out)
    have HR1 := hideIt hr1
    obtain ⟨y0, y1, _, _⟩ := two_cells hr1
    clear hb1 hr1 x0 x1 HC HM HS HR HB
    go_wp2_with fail
    go_at_call 208
    refine (HSzf.out w1).mono ?_
    rintro e w' ⟨hw', hh⟩
    obtain rfl := hw'.symm
    clear hw' HSzf
    rcases hh with ⟨hn, _⟩ | ⟨_, t1, t7, q47, _, rfl⟩
    · exact absurd hsc hn
    have hzp : 0 < 2 ^ szQ t bt := Nat.two_pow_pos _
    have hzl : 2 ^ szQ t bt ≤ 140737488355328 := Nat.le_trans (Nat.pow_le_pow_right (by decide) q47) (by decide)
    have HPc := hideIt (places_m HM1.out HMk.out hi (HSd.out.isk hi) (tf_top HSd.out.ix HSd.out.iv hreg) hT hE hTE hzp hzl (k := k) m2 m3)
    have HNs : Hid (¬ E < alU T (2 ^ szQ t bt) + k * 2 ^ szQ t bt) := by
      show ¬ _
      rw [← spN_lt hzp m2]
      unfold spM stM at m4
      rw [hT, hE] at m4
      simp only [Int.toNat_natCast] at m4
      omega
    have hst : stM (ob s ws) i t bt = alU T (2 ^ szQ t bt) := by unfold stM; rw [hT]; rfl
    rw [hst] at hX2
    have HX2 : Hid (X = _) := HX.out.trans hX2
    clear hX2 HX hst hT hE hTE hE2 hzp hzl m1 m4 hsc q47
    generalize hzz : (2 ^ szQ t bt : Nat) = z at *
    clear hzz
    generalize alU T z = st at *
    go_wp2_with fail
    go_at_call 209
    refine HPc.out.mono ?_
    rintro e w2 ⟨hb2', hpl⟩
    obtain ⟨v, rfl, hup⟩ : ∃ v, e = .returned v ∧ UOwn w1.heap.size w2 v (plL st z k) := by
      rcases hpl with ⟨hlt, _⟩ | ⟨_, v, e1, e2⟩
      · exact absurd hlt HNs.out
      · exact ⟨v, e1, e2⟩
    obtain ⟨gp, cp, hvf, gp1, gp2, hpc⟩ := hup.at (by rw [plL_len]; omega)
    rw [plL_len] at hvf
    subst hvf
    have HPL : Hid (∀ q, q < k → w2.cell? ⟨gp, q, none⟩ = some (.int .u64 ((st + q * z : Nat) : Int))) := fun q hq => hpc q _ (plL_get hq)
    have HM2 := hideIt (HM1.out.below hb2')
    have HB2 := hideIt (Below.thr HB1.out hb2')
    have HS2 := hideIt ((hb2'.block _ (heap_lt HS1.out)).trans HS1.out)
    have HR2 := hideIt ((hb2'.block _ (heap_lt HR1.out)).trans HR1.out)
    have hB1 := HM1.out.lt
    have HGp : Hid (B < gp ∧ gp < w2.heap.size) := ⟨by omega, gp2⟩
    have HSp := hideIt (spare_m HM2.out HMk.out t)
    clear hpl hup hpc hb2' HPc HNs HM1 HB1 HS1 HR1 y0 y1 gp1 gp2 hB1
    go_wp2_with fail
    go_at_call 205
    refine HSp.out.mono ?_
    rintro e W ⟨v, rfl, hown, hb3⟩
    obtain ⟨gs, cs9, hvf, gs1, gs2, _, hsc⟩ := hown.at (by omega)
    have HSC := hideIt hsc
    have HSl : Hid (∀ c ∈ spr (ob s ws) (loT t) (hiT t), c < 320) := fun c hc => Nat.lt_of_lt_of_le (spr_mem hc).1 (hiT_le t)
    have HNd : Hid ((spr (ob s ws) (loT t) (hiT t)).Nodup) := by
      show List.Nodup _
      unfold spr
      exact List.nodup_range.filter _
    have HLs := hideIt (Nat.le_trans (spr_le (ob s ws) (loT t) (hiT t)) (hiT_le t))
    obtain ⟨sl, hsl⟩ : ∃ sl, sl = spr (ob s ws) (loT t) (hiT t) := ⟨_, rfl⟩
    rw [← hsl] at HSC HSl HX2 m5 HNd HLs
    rw [← hsl] at hvf
    subst hvf
    have HM3 := hideIt (HM2.out.below hb3)
    have HB3 := hideIt (Below.thr HB2.out hb3)
    have HS3 := hideIt ((hb3.block _ (heap_lt HS2.out)).trans HS2.out)
    have HR3 := hideIt ((hb3.block _ (heap_lt HR2.out)).trans HR2.out)
    have HPL3 : Hid (∀ q, q < k → W.cell? ⟨gp, q, none⟩ = some (.int .u64 ((st + q * z : Nat) : Int))) := fun q hq => (hb3.cell (p := ⟨gp, q, none⟩) HGp.out.2).trans (HPL.out q hq)
    have hB2 := HM2.out.lt
    have HGs : Hid (B < gs ∧ gs < W.heap.size ∧ B < gp ∧ gp < W.heap.size) := ⟨by omega, gs2, HGp.out.1, Nat.lt_of_lt_of_le HGp.out.2 hb3.size⟩
    have hfl := zw_len t t1 t7
    obtain ⟨fl, hfe⟩ : ∃ fl, fl = (zw t).length := ⟨_, rfl⟩
    rw [← hfe] at hfl
    have hfl2 : fl ≤ 112 := by
      rw [hfe]
      unfold zw
      split
      · simp
      · rw [wlist_len]; exact nF_le _
    obtain ⟨cs, hcs, hcz, hmk⟩ := make_words fl (by omega)
    have HFd : Hid (∀ w', Calls Tryz.prog 210 #[.int .u8 (t : Int)] w' fun e w'' => e = .returned (.int .i64 (fl : Int)) ∧ w'' = w') := fun w' => by rw [hfl]; exact Fields_m w' t
    have HCS := hideIt hcs
    have HCZ := hideIt hcz
    have HFE := hideIt hfe
    have HSL := hideIt hsl
    clear hown hsc hb3 HSp HM2 HB2 HS2 HR2 HPL HGp gs1 gs2 hB2 hcs hcz hfe hfl hsl hreg
    have hk0 : (k : Int) ≤ 32 := by omega
    go_wp2_with fail
    go_loopw [16, 48] (fun v16 v48 wr => ∃ (q : Nat) (wq : Nat → Nat), q ≤ k ∧ v48 = .int .i64 (q : Int) ∧ ROwn W.heap.size wr v16 ((sl.take q).map (rfM (ob s ws))) ∧ Md wr B wq (grw i t z (ob s ws) st (sl.take q)) ∧ Ext W.heap.size (fun b => b = B) W wr ∧ (∀ b, Tm B wq (grw i t z (ob s ws) st (sl.take q)) b → Tm B wb (ob s ws) b ∨ W.heap.size ≤ b) ∧ (∀ b, v16.ownBlock = some b → ¬ Tm B wq (grw i t z (ob s ws) st (sl.take q)) b)) (fun _ j _ => k - (intOf j).toNat)
    case atStart => exact ⟨0, wb, Nat.zero_le _, rfl, ROwn.nil _ _, HM3.out, Ext.refl _ _ _, fun b hb => Or.inl hb, fun b hb => by cases hb⟩
    case round =>
      obtain ⟨q, wq, hq, rfl, hrow, hmd, hex, htm, hrb⟩ := hrel
      have hln := HLs.out
      have hgs := HGs.out
      by_cases hlt : q < k
      · have hlt' : (q : Int) < (k : Int) := by omega
        have hql : q < sl.length := by omega
        have hql' : (q : Int) < (sl.length : Int) := by omega
        obtain ⟨c, hcq⟩ : ∃ c, sl[q]? = some c := ⟨_, List.getElem?_eq_getElem hql⟩
        have c3 := HSl.out c (List.mem_of_getElem? hcq)
        have c3' : (c : Int) < 320 := by omega
        have cu := (hex.cell (p := ⟨gs, q, none⟩) hgs.2.1 (by show ¬ gs = B; omega)).trans (HSC.out q c hcq)
        have cp9 := (hex.cell (p := ⟨gp, q, none⟩) hgs.2.2.2 (by show ¬ gp = B; omega)).trans (HPL3.out q hlt)
        have hne0 : ¬ w.heap.size = B := by have := H0.out.lt; omega
        obtain ⟨y0, y1, _, _⟩ := two_cells ((hex.block w.heap.size (heap_lt HR3.out) hne0).trans HR3.out)
        have htk : sl.take (q + 1) = sl.take q ++ [c] := by
          rw [List.take_succ_eq_append_getElem hql]
          rw [List.getElem?_eq_getElem hql] at hcq
          rw [Option.some.inj hcq]
        have hsn := grw_snoc i t z c (sl.take q) (ob s ws) st
        rw [← htk, List.length_take, Nat.min_eq_left (by omega)] at hsn
        have hgn := grw_gen i t z (sl.take q) (ob s ws) st c
        rw [hgn] at hsn
        have HSN := hideIt hsn
        have HGN := hideIt hgn
        have HTK := hideIt htk
        have z0 := hmd.gen c3
        rw [hgn] at z0
        have HMd := hideIt hmd
        have HEx := hideIt hex
        have HTm := hideIt htm
        have HRb := hideIt hrb
        have HRw := hideIt hrow
        obtain ⟨v5, z5, _⟩ := hmd.wrd c c3
        have z1 := hmd.typ c3
        have z2 := hmd.bas c3
        have z3 := hmd.siz c3
        have z4 := hmd.par c3
        have fz := hmd.fz
        have f0 := fz (c * 6)
        have f1 := fz (c * 6 + 1)
        have f2 := fz (c * 6 + 2)
        have f3 := fz (c * 6 + 3)
        have f4 := fz (c * 6 + 4)
        have f5 := fz (c * 6 + 5)
        have HLk : Hid (((sl.take q).map (rfM (ob s ws))).length ≤ 320) := by show _ ≤ _; rw [List.length_map, List.length_take]; omega
        have HMP : Hid ((sl.take (q + 1)).map (rfM (ob s ws)) = (sl.take q).map (rfM (ob s ws)) ++ [(c, (ob s ws c).gen)]) := by show _ = _; rw [htk, List.map_append]; rfl
        have hba : Below wr.heap.size wr (wr.alloc (.cells cs 34)) := alloc_below _
        have hBl := hmd.lt
        have a0 := (hba.cell (p := ⟨B, c * 6, none⟩) hBl).trans z0
        have a1 := (hba.cell (p := ⟨B, c * 6 + 1, none⟩) hBl).trans z1
        have a2 := (hba.cell (p := ⟨B, c * 6 + 2, none⟩) hBl).trans z2
        have a3 := (hba.cell (p := ⟨B, c * 6 + 3, none⟩) hBl).trans z3
        have a4 := (hba.cell (p := ⟨B, c * 6 + 4, none⟩) hBl).trans z4
        have a5 := (hba.cell (p := ⟨B, c * 6 + 5, none⟩) hBl).trans z5
        have e0 := (World.frozen?_of_block (a := ⟨B, c * 6, none⟩) (hba.block B hBl)).trans f0
        have e1 := (World.frozen?_of_block (a := ⟨B, c * 6 + 1, none⟩) (hba.block B hBl)).trans f1
        have e2 := (World.frozen?_of_block (a := ⟨B, c * 6 + 2, none⟩) (hba.block B hBl)).trans f2
        have e3 := (World.frozen?_of_block (a := ⟨B, c * 6 + 3, none⟩) (hba.block B hBl)).trans f3
        have e4 := (World.frozen?_of_block (a := ⟨B, c * 6 + 4, none⟩) (hba.block B hBl)).trans f4
        have e5 := (World.frozen?_of_block (a := ⟨B, c * 6 + 5, none⟩) (hba.block B hBl)).trans f5
        have HYa := hideIt ((hba.cell (p := ⟨w.heap.size, 0, none⟩) (cell_lt y0)).trans y0)
        have HBl := hideIt hBl
        clear hrow hcq htk
        obtain ⟨ge, hge⟩ : ∃ ge, ge = (ob s ws c).gen := ⟨_, rfl⟩
        obtain ⟨at9, hat⟩ : ∃ at9, at9 = st + q * z := ⟨_, rfl⟩
        rw [← hge] at z0 a0 HGN HMP hsn
        rw [← hat] at cp9 hsn
        clear HSN
        have hNW := (hmd.newW c3 HCS.out HCZ.out HFE.out.symm (by omega) ge (at9 : Int) (z : Int) (i : Int)).below (below_d _)
        have HE1 : Hid (Ext wr.heap.size (fun b => b = B) wr ((wr.alloc (.cells cs 34)).setCells B (c * 6) (ent6 ⟨ge, (t : Int), (at9 : Int), (z : Int), (i : Int), zw t⟩ (.slice (some ⟨wr.heap.size, 0, none⟩) fl fl))).drew) := (Ext.cells ((Ext.refl wr.heap.size (fun b => b = B) wr).andThen (alloc_below _) (Nat.le_refl _)) rfl _ _).drew
        have HK6 : Hid (∀ W' : World, W' = ((wr.alloc (.cells cs 34)).setCells B (c * 6) (ent6 ⟨ge, (t : Int), (at9 : Int), (z : Int), (i : Int), zw t⟩ (.slice (some ⟨wr.heap.size, 0, none⟩) fl fl))).drew → W'.cell? ⟨w.heap.size, 0, none⟩ = some (.int .u16 (i : Int)) ∧ W'.cell? ⟨B, c * 6, none⟩ = some (.int .u32 ge)) := fun W' hW' => by
          rw [hW']
          refine ⟨(HE1.out.cell (p := ⟨w.heap.size, 0, none⟩) (cell_lt y0) hne0).trans y0, ?_⟩
          have := hNW.gen c3
          unfold updM at this
          rw [if_pos rfl] at this
          exact this
        have HPZ : Hid (pz (i : Int) = (i : Int)) := by show _ = _; unfold pz; rw [if_neg (by omega)]
        obtain ⟨w6, hw6⟩ : ∃ w6, w6 = ((wr.alloc (.cells cs 34)).setCells B (c * 6) (ent6 ⟨ge, (t : Int), (at9 : Int), (z : Int), (i : Int), zw t⟩ (.slice (some ⟨wr.heap.size, 0, none⟩) fl fl))).drew := ⟨_, rfl⟩
        rw [← hw6] at hNW HE1 HK6
        have HWS := hideIt hw6
        have HM6 := hideIt hNW
        have HE6 : Hid (Ext W.heap.size (fun b => b = B) W w6) := HEx.out.trans HE1.out HEx.out.size (fun _ _ p => p)
        have HU : Hid (∀ b, u16.ownBlock = some b → W.heap.size ≤ b ∧ b < wr.heap.size) := owns_lt HRw.out
        have HO6 : Hid (ROwn W.heap.size w6 u16 ((sl.take q).map (rfM (ob s ws)))) := owns_keep HRw.out (fun p hp => HE1.out.block p (HU.out p hp).2 (by have := (HU.out p hp).1; have := HM3.out.lt; show ¬ p = B; omega))
        have HSz6 : Hid (W.heap.size ≤ w6.heap.size) := HE6.out.size
        have HSzr : Hid (W.heap.size ≤ wr.heap.size) := HEx.out.size
        have HRf := hideIt (ref_m hNW c3)
        have hug : (updM (grw i t z (ob s ws) st (sl.take q)) c ⟨ge, (t : Int), (at9 : Int), (z : Int), (i : Int), zw t⟩ c).gen = ge := by unfold updM; rw [if_pos rfl]
        rw [hug] at HRf
        have HSN := hideIt hsn
        have i6w : IntKind.i64.wrap (i : Int) = (i : Int) := by unfold IntKind.wrap; simp [IntKind.bits, IntKind.signed]; omega
        clear hmd hex htm hrb hsn hgn fz hba hBl hge hat hNW hw6 hug
        generalize (sl.take q).map (rfM (ob s ws)) = rl at *
        go_wp2_with fail
        go_region_held3 (fun w' => w'.cell? ⟨w.heap.size, 0, none⟩ = some (.int .u16 (i : Int)) ∧ w'.cell? ⟨B, c * 6, none⟩ = some (.int .u32 ge)) (first | (go_keep; done) | exact HK6.out _ (by rw [HWS.out]; unfold ent6; rw [HPZ.out]; rfl))
          ((go_at_call 210; refine (HFd.out _).mono ?_; rintro e w' ⟨rfl, hw'⟩; obtain rfl := hw'.symm))
        rw [show (((((((wr.alloc (.cells cs 34)).setCell ⟨B, c * 6, none⟩ (.int .u32 ge)).setCell ⟨B, c * 6 + 1, none⟩ (.int .u8 (t : Int))).setCell ⟨B, c * 6 + 2, none⟩ (.int .u64 (at9 : Int))).setCell ⟨B, c * 6 + 3, none⟩ (.int .u64 (z : Int))).setCell ⟨B, c * 6 + 4, none⟩ (.int .i64 (i : Int))).setCell ⟨B, c * 6 + 5, none⟩ (.slice (some ⟨wr.heap.size, 0, none⟩) fl fl)).drew = w6 from by rw [HWS.out]; unfold ent6; rw [HPZ.out]; rfl]
        clear HK6 HWS HPZ a0 a1 a2 a3 a4 a5 e0 e1 e2 e3 e4 e5 z0 z1 z2 z3 z4 z5 f0 f1 f2 f3 f4 f5 cu cp9 y0 y1
        go_wp2_with (first | (go_at_call 206; refine HRf.out.mono ?_; rintro e w7 ⟨rfl, hb7⟩; have HO7 := hideIt (HO6.out.below hb7); have HB7 := hideIt hb7; have HSz7 := hideIt (Nat.le_trans HSz6.out hb7.size); clear hb7) | (at_builtin; refine wpList_append_own_at _ rfl (.tmp 79) (.tmp 83) 55 rfl W.heap.size 32 i2 (.agg #[.int .u16 0, .int .u32 0]) 2 8 Tryz.underlying55 hi2 hz2 hs2 hb2 rfl (by decide) _ _ _ rfl (World.ownsRow.alloc HO7.out _) ⟨w7.heap.size, 0, none⟩ 1 1 [.int .u16 (c : Int), .int .u32 ge] rfl rfl (new_two w7 _ rfl _ _ _) (ones2 _ _) (by have := HLk.out; unfold maxLen; omega) (by have := HLk.out; omega) (by have := HSz7.out; simp; omega) ?_; intro v' w8 hown8 hgrow8 _ hwh8; have HO8 := hideIt hown8; have HG8 := hideIt hgrow8; have HH8 := hideIt hwh8; clear hown8 hgrow8 hwh8))
        go_roundw
        case rel =>
          obtain ⟨h1, h2, h3, h4⟩ := rt_next (wb := wb) (M := ob s ws) HM6.out HE6.out HSzr.out HB7.out HG8.out HH8.out HU.out HRb.out HTm.out
          rw [← HSN.out] at h1 h3 h4
          exact ⟨q + 1, _, by omega, by go_num, by rw [HMP.out]; unfold ROwn; rw [refL_one, List.length_append]; exact HO8.out, h1, h2, h3, h4⟩
        case measure => simp [intOf]; omega
      · have hql : q = k := by omega
        subst hql
        have hs5 := (hex.block (w.heap.size + 1) (heap_lt HS3.out) (by have := H0.out.lt; show ¬ w.heap.size + 1 = B; omega)).trans HS3.out
        obtain ⟨rz, rc, hrz⟩ : ∃ a c, u16 = .slice a ((sl.take q).map (rfM (ob s ws))).length c := by
          rcases hrow.2 with ⟨e, e2⟩ | ⟨g, c, cur, e1, _⟩
          · exact ⟨none, 0, by rw [e, e2]⟩
          · exact ⟨_, c, e1⟩
        subst hrz
        obtain ⟨r0, r1, r2, f0, f1, f2⟩ := three_cells hs5
        have HZ := hideIt (three_set hs5 (.int .u8 0) (.slice rz ((sl.take q).map (rfM (ob s ws))).length rc) (.slice none 0 0))
        have HF : Hid (MsP B wb (ob s ws) X w (.returned (.agg #[.int .u8 0, .slice rz ((sl.take q).map (rfM (ob s ws))).length rc, .slice none 0 0])) (((wr.setCell ⟨w.heap.size + 1, 0, none⟩ (.int .u8 0)).setCell ⟨w.heap.size + 1, 1, none⟩ (.slice rz ((sl.take q).map (rfM (ob s ws))).length rc)).setCell ⟨w.heap.size + 1, 2, none⟩ (.slice none 0 0))) := by
          show MsP _ _ _ _ _ _ _
          rw [HX2.out]
          have e1 : Ext w.heap.size (Tm B wb (ob s ws)) w wr := (Ext.of_below HB3.out _).trans hex HB3.out.size (fun b _ p => Or.inl p)
          have hR := heap_lt HS3.out
          refine MsP.chg (X := ⟨0, (sl.take q).map (rfM (ob s ws)), []⟩) (R := w.heap.size + 1) hmd e1 (Nat.le_succ _) (fun b hb => ?_) rfl (hrow.isr (by omega)) (IsU.nil _ _) (.int .u8 0) (.slice rz ((sl.take q).map (rfM (ob s ws))).length rc) (.slice none 0 0)
          rcases htm b hb with p | p
          · have := H0.out.tlt p
            exact ⟨by omega, Or.inl p⟩
          · have := HB3.out.size
            exact ⟨by omega, Or.inr (by omega)⟩
        clear hrow hmd hex htm hrb hs5
        generalize ((sl.take q).map (rfM (ob s ws))).length = rn at *
        go_wp2_with fail
        refine bodyPost_ret (v := .agg #[.int .u8 0, (.slice rz rn rc), (.slice none 0 0)]) ?_ rfl HF.out
        exact results_cell_row (by exact Tryz.results71) _ _ (w.heap.size + 1) _ _ _ _ (by rfl) (by exact HZ.out) Tryz.underlying57 rfl (by kernel_rfl)
  · have HX2 : Hid (X = (Os.bad (mrM (ob s ws) i g t bt k), ob s ws)) := by show X = _; rw [HX.out, retX_bad hc]
    have hcb : (mrM (ob s ws) i g t bt k != 0) = true := by rw [bne_iff_ne]; exact hc
    clear hc HX
    generalize mrM (ob s ws) i g t bt k = c at *
    go_enter Tryz.func71, Tryz.ntmps71
    go_upto_region 1 with fail
    rw [show (w.alloc (.cells #[.int .u16 (i : Int), .int .u32 g] 32)).alloc (.cells #[.int .u8 0, .slice none 0 0, .slice none 0 0] 57) = W0 from hW0.symm]
    clear hW0
    go_wp2_with fail
    go_at_call 207
    refine HC.out.mono ?_
    rintro e w1 ⟨rfl, hb1⟩
    have HB1 := hideIt (Below.thr HB.out hb1)
    have HS1 := hideIt ((hb1.block _ (heap_lt HS.out)).trans HS.out)
    clear hb1 x0 x1 HC HM HS HR HB
    go_wp2_with (go_at_call 90; refine (fail_m _ _).mono ?_; rintro e w9 ⟨rfl, hb9⟩; have hs9 := (hb9.block _ (heap_lt HS1.out)).trans HS1.out; obtain ⟨q0, q1, q2, k0, k1, k2⟩ := three_cells hs9; have HZ := hideIt (three_set hs9 (.int .u8 c) (.slice none 0 0) (.slice none 0 0)); have HF := hideIt (MsP.badR H0.out (Below.thr HB1.out hb9) (Nat.le_succ _) HX2.out (.int .u8 c) (.slice none 0 0) (.slice none 0 0)); clear hb9 hs9)
    refine bodyPost_ret (v := .agg #[.int .u8 c, (.slice none 0 0), (.slice none 0 0)]) ?_ rfl HF.out
    exact results_cell_row (by exact Tryz.results71) _ _ (w.heap.size + 1) _ _ _ _ (by rfl) (by exact HZ.out) Tryz.underlying57 rfl (by kernel_rfl)
end
end Go.Proofs.Qxb6500847aGreatDoor.Os
