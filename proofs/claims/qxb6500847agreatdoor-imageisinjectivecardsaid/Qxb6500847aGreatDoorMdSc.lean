/-
  The abstract model: storeAll.
-/
import Derived.Test.Qxb6500847aGreatDoorMdJ
import Derived.Test.Qxb6500847aGreatDoorMdW
import Derived.Test.Qxb6500847aGreatDoorMdFe
namespace Go.Proofs.Qxb6500847aGreatDoor.Os
open Go.RowKit FloorA
set_option maxRecDepth 100000
section
variable {w w' : World} {B : Nat} {wb : Nat → Nat} {M : Nat → En}
set_option maxHeartbeats 4000000 in
theorem storeAll_m (h : Md w B wb M) (hM : Mk M) (i : Nat) (h6 : i < 65536) (g : Int) {vw : Value} {m : Nat} {X9 : Nat → Nat} (hw : Ws w vw m X9) :
    Calls Tryz.prog 85 #[.pointer (some ⟨B, 0, none⟩), .agg #[.int .u16 (i : Int), .int .u32 g], vw] w (MsP B wb M (cX (staX M i g (xl X9 m))) w) := by
  have hb0 := stW_below i g w
  obtain ⟨x0, x1, _, _⟩ := two_cells (stW_r i g w)
  have HR := hideIt (stW_r i g w)
  have HS := hideIt (stW_s i g w)
  have H0 := hideIt h
  have HM := hideIt (h.below hb0)
  have HMk := hideIt hM
  have HB := hideIt hb0
  have HC := hideIt (check_m HM.out i h6 g)
  obtain ⟨X, hX⟩ : ∃ X, X = (cX (staX M i g (xl X9 m))) := ⟨_, rfl⟩
  rw [← hX]
  have HX := hideIt hX
  clear h hb0 hM hX
  by_cases hc : chk M i g = 0
  · obtain ⟨hi, _, _, _⟩ := chk_lt hc
    have i3 : (i : Int) < 320 := by omega
    have HW := hideIt hw
    obtain ⟨ad, cw, hvw⟩ : ∃ ad c, vw = .slice ad m c := by
      rcases hw with ⟨e, ad, c, q⟩ | ⟨b, o, c, q, _⟩
      · exact ⟨ad, c, by rw [q, e]⟩
      · exact ⟨_, c, q⟩
    subst hvw
    clear hw
    rw [hc] at HC
    have HCK : Hid (chk M i g = 0) := hc
    have i6 : wrap64 (i : Int) = (i : Int) := by unfold wrap64; omega
    clear hc
    go_enter Tryz.func85, Tryz.ntmps85
    go_upto_region 1 with fail
    rw [show (w.alloc (.cells #[.int .u16 (i : Int), .int .u32 g] 32)).alloc (.cells #[.int .u8 0, .slice none 0 0, .slice none 0 0] 57) = stW i g w from rfl]
    generalize stW i g w = w0 at *
    go_wp2_with fail
    go_at_call 211
    refine HC.out.mono ?_
    rintro e w1 ⟨rfl, hb1⟩
    have hr1 := (hb1.block _ (heap_lt HR.out)).trans HR.out
    obtain ⟨y0, y1, _, _⟩ := two_cells hr1
    have HB1 := hideIt (Below.thr HB.out hb1)
    have HM1 := hideIt (HM.out.below hb1)
    have HS1 := hideIt ((hb1.block _ (heap_lt HS.out)).trans HS.out)
    have HR1 := hideIt hr1
    clear hb1 hr1 x0 x1 HC HM HS HR HB
    obtain ⟨sv, hsv, hd⟩ := HM1.out.wrd i hi
    have hwl : (M i).wds.length ≤ 112 := HMk.out.wlen i hi
    obtain ⟨ad9, c9, rfl⟩ := hd.form
    have hml : m ≤ maxLen := by
      rcases HW.out with ⟨e, _⟩ | ⟨b, o, c, _, q1, q2, _⟩
      · omega
      · omega
    by_cases hlm : m = (M i).wds.length
    · have HLm := hideIt hlm
      clear hd
      generalize hgl : (M i).wds.length = wl at *
      have HGl := hideIt hgl
      subst hlm
      clear hgl
      go_wp2_with fail
      go_quiet (fail)
      have HB2 := hideIt (Below.thr HB1.out (belowN w1 nq))
      have HS2 : Hid ((w1.drewN nq).heap[w.heap.size + 1]? = some (.cells #[.int .u8 0, .slice none 0 0, .slice none 0 0] 57 (0, 0))) := HS1.out
      have HM2 := hideIt (HM1.out.below (belowN w1 nq))
      have HR2 : Hid ((w1.drewN nq).heap[w.heap.size]? = some (.cells #[.int .u16 (i : Int), .int .u32 g] 32 (0, 0))) := HR1.out
      clear HB1 HS1 HM1 HR1 y0 y1 hsv
      generalize w1.drewN nq = w2 at *
      have HW2 := hideIt (HW.out.below HB2.out)
      go_wp2_with fail
      go_loopw [32] (fun v32 wr => ∃ q : Nat, q ≤ m ∧ v32 = .int .i64 (q : Int) ∧ (∀ f, f < q → fOk (tabOf M i) f (X9 f : Int)) ∧ Below w2.heap.size w2 wr) (fun j _ => m - (intOf j).toNat)
      case atStart => exact ⟨0, Nat.zero_le _, rfl, fun f hf => by omega, Below.refl _ _⟩
      case round =>
        obtain ⟨q, hq, rfl, hall, hbr⟩ := hrel
        have HAll := hideIt hall
        have HBr := hideIt hbr
        clear hall
        by_cases hlt : q < m
        · have hlt' : (q : Int) < (m : Int) := by omega
          obtain ⟨b, o, hado, hbs, hxq⟩ : ∃ b o, ad = some ⟨b, o, none⟩ ∧ b < w2.heap.size ∧ X9 q < 18446744073709551616 ∧ w2.cell? ⟨b, o + q, none⟩ = some (.int .u64 (X9 q : Int)) := by
            rcases HW2.out with ⟨e, _⟩ | ⟨b, o, c, e, _, _, e2, e3⟩
            · omega
            · injection e with e1 _ _
              exact ⟨b, o, e1, e2, e3 q hlt⟩
          subst hado
          obtain ⟨hx64, hcx2⟩ := hxq
          have hcx := (hbr.cell (p := ⟨b, o + q, none⟩) hbs).trans hcx2
          obtain ⟨y0, y1, _, _⟩ := two_cells ((hbr.block _ (heap_lt HR2.out)).trans HR2.out)
          obtain ⟨tk, htk, tk7, _⟩ := HMk.out.typ i hi
          have htb : tabOf M i = tk - 2 := by unfold tabOf; rw [htk]; rfl
          have zt := (HM2.out.below hbr).typ hi
          rw [htk] at zt
          have hln := HMk.out.wln i hi
          rw [htk, HGl.out] at hln
          have hk2 : 2 ≤ tk := by
            by_cases p : (tk : Int) < 2
            · rw [if_pos p] at hln; omega
            · omega
          have hnf : q < nF (tk - 2) := by
            rw [if_neg (by omega)] at hln
            have : (tk : Int).toNat - 2 = tk - 2 := by omega
            rw [this] at hln
            omega
          have hX9 : ∃ x, x = X9 q := ⟨_, rfl⟩
          obtain ⟨x, hx⟩ := hX9
          rw [← hx] at hcx hx64
          have HXq := hideIt hx
          clear hcx2 hln htk hx
          by_cases hfo : fOk (tk - 2) q (x : Int)
          · have HFt : Hid (∀ w', Calls Tryz.prog 218 #[.int .u8 (tk : Int), .int .i64 (q : Int), .int .u64 (x : Int)] w' (fun e w'' => e = .returned (.bool true) ∧ w'' = w')) := fun w' => (fits_m w' hk2 tk7 hnf hx64).mono (fun e w'' p => by
              obtain ⟨b, e1, e2, e3⟩ := p
              exact ⟨by rw [e1, e2.2 hfo], e3⟩)
            have HA2 : Hid (∀ f, f < q + 1 → fOk (tabOf M i) f (X9 f : Int)) := fun f hf => by
              by_cases e : f = q
              · rw [e, htb, ← HXq.out]; exact hfo
              · exact HAll.out f (by omega)
            clear hfo htb hnf hk2 hbr
            go_wp2_with fail
            go_quiet ((go_at_call 218; exact Calls.quiet_of_same (HFt.out _)))
            go_wp2_with fail
            go_roundw
            case rel => exact ⟨q + 1, by omega, by go_num, HA2.out, Below.thr HBr.out (belowN _ _)⟩
            case measure => simp [intOf]; omega
          · have HFt : Hid (∀ w', Calls Tryz.prog 218 #[.int .u8 (tk : Int), .int .i64 (q : Int), .int .u64 (x : Int)] w' (fun e w'' => e = .returned (.bool false) ∧ w'' = w')) := fun w' => (fits_m w' hk2 tk7 hnf hx64).mono (fun e w'' p => by
              obtain ⟨b, e1, e2, e3⟩ := p
              have : b = false := by
                cases b
                · rfl
                · exact absurd (e2.1 rfl) hfo
              exact ⟨by rw [e1, this], e3⟩)
            have HX3 : Hid (X = (bad 14, M)) := by
              show X = _
              rw [HX.out]
              unfold staX cX
              rw [if_neg (by rw [HCK.out]; simp), if_neg (fun z => z (by unfold xl; simp [HGl.out])), if_neg (fun z => hfo ?_)]
              · rfl
              · have h8 := z q (X9 q : Int) (by unfold xl; simp [hlt])
                rw [htb, ← HXq.out] at h8
                exact h8
            have HB5 := hideIt (Below.thr HB2.out hbr)
            have HS5 := hideIt ((hbr.block _ (heap_lt HS2.out)).trans HS2.out)
            clear hfo htb hnf hk2 hbr HX
            go_wp2_with fail
            go_quiet ((go_at_call 218; exact Calls.quiet_of_same (HFt.out _)))
            have HB6 := hideIt (Below.thr HB5.out (belowN wr nq))
            have HS6 : Hid ((wr.drewN nq).heap[w.heap.size + 1]? = some (.cells #[.int .u8 0, .slice none 0 0, .slice none 0 0] 57 (0, 0))) := HS5.out
            clear y0 y1 zt hcx HB5 HS5
            generalize wr.drewN nq = w6 at *
            go_wp2_with (go_at_call 90; refine (fail_m _ _).mono ?_; rintro e w3 ⟨rfl, hb3⟩; have hs3 := (hb3.block _ (heap_lt HS6.out)).trans HS6.out; obtain ⟨q0, q1, q2, k0, k1, k2⟩ := three_cells hs3; have HZ := hideIt (three_set hs3 (.int .u8 14) (.slice none 0 0) (.slice none 0 0)); have HF := hideIt (MsP.bad H0.out ((((Below.thr HB6.out hb3).setCell (p := ⟨w.heap.size + 1, 0, none⟩) (Nat.le_succ _) (.int .u8 14)).setCell (p := ⟨w.heap.size + 1, 1, none⟩) (Nat.le_succ _) (.slice none 0 0)).setCell (p := ⟨w.heap.size + 1, 2, none⟩) (Nat.le_succ _) (.slice none 0 0)) HX3.out); clear hb3 hs3)
            refine bodyPost_ret (v := .agg #[.int .u8 14, (.slice none 0 0), (.slice none 0 0)]) ?_ rfl HF.out
            exact results_cell_row (by exact Tryz.results85) _ _ (w.heap.size + 1) _ _ _ _ (by rfl) (by exact HZ.out) Tryz.underlying57 rfl (by kernel_rfl)
        · have hql : q = m := by omega
          subst hql
          have HX3 : Hid (X = (⟨0, [], []⟩, updM M i { M i with wds := xl X9 q })) := by
            show X = _
            rw [HX.out]
            unfold staX cX
            rw [if_neg (by rw [HCK.out]; simp), if_neg (fun z => z (by unfold xl; simp [HGl.out])), if_pos (fun f y hy => ?_)]
            have hf : f < q := by have := (List.getElem?_eq_some_iff.1 hy).1; unfold xl at this; simpa using this
            have : y = (X9 f : Int) := by unfold xl at hy; simp [hf] at hy; exact hy.symm
            rw [this]
            exact HAll.out f hf
          have HB4 := hideIt (Below.thr HB2.out hbr)
          have HS4 := hideIt ((hbr.block _ (heap_lt HS2.out)).trans HS2.out)
          have HM4 := hideIt (HM2.out.below hbr)
          have HW4 := hideIt (HW2.out.below hbr)
          obtain ⟨y0, y1, _, _⟩ := two_cells ((hbr.block _ (heap_lt HR2.out)).trans HR2.out)
          obtain ⟨sv, hsv, hd⟩ := HM4.out.wrd i hi
          have hxl : (xl X9 q).length = (M i).wds.length := by unfold xl; simp [HGl.out]
          obtain ⟨ad8, c8, hsf⟩ := hd.form
          rw [HGl.out] at hsf
          subst hsf
          have HCp : Hid (∃ w5, (∀ ty, (Builtin.copy_ #[35, 35] ty #[.slice ad8 q c8, .slice ad q cw]).run Tryz.prog wr.drew = .ok (goInt q) w5) ∧ Md w5 B wb (updM M i { M i with wds := xl X9 q }) ∧ Ext w.heap.size (Tm B wb M) w w5 ∧ w5.heap[w.heap.size + 1]? = some (.cells #[.int .u8 0, .slice none 0 0, .slice none 0 0] 57 (0, 0)) ∧ w5.cell? ⟨w.heap.size, 0, none⟩ = some (.int .u16 (i : Int)) ∧ w5.cell? ⟨B, i * 6 + 5, none⟩ = some (.slice ad8 q c8)) := by
            show ∃ w5, _
            by_cases hq0 : q = 0
            · subst hq0
              have hnl : (M i).wds = [] := List.length_eq_zero_iff.1 HGl.out
              refine ⟨wr.drew, fun ty => run_copy_none wr.drew 35 35 ty 34 ad8 ad 0 c8 0 cw Tryz.underlying35 siz34m rfl, ?_, (Ext.of_below HB4.out _).drew, HS4.out, y0, hsv⟩
              have : updM M i { M i with wds := xl X9 0 } = M := by
                have e : ({ M i with wds := xl X9 0 } : En) = M i := by
                  rw [show xl X9 0 = (M i).wds by rw [hnl]; rfl]
                rw [e, updM_self]
              rw [this]
              exact HM4.out.below (below_d _)
            · have hnl : (M i).wds ≠ [] := fun z => by have := HGl.out; rw [z] at this; simp at this; omega
              have hxn : xl X9 q ≠ [] := fun z => by rw [z] at hxl; exact hnl (List.length_eq_zero_iff.1 hxl.symm)
              obtain ⟨hrg, hfz⟩ := hd.rng hnl
              have had8 : ad8 = some ⟨wb i, 0, none⟩ := by
                rcases hd with ⟨e, _⟩ | ⟨_, c, e1, _⟩
                · exact absurd e hnl
                · injection e1
              obtain ⟨b, o, hado, hbs, hwx⟩ : ∃ b o, ad = some ⟨b, o, none⟩ ∧ b < wr.heap.size ∧ Words wr b o q X9 := by
                rcases HW4.out with ⟨e, _⟩ | ⟨b, o, c, e, _, _, e2, e3⟩
                · omega
                · injection e with e1 _ _
                  exact ⟨b, o, e1, e2, e3⟩
              subst had8 hado
              have hzl : ((xl X9 q).map (Value.int .u64)).length = q := by unfold xl; simp
              have hrun : ∀ ty, (Builtin.copy_ #[35, 35] ty #[.slice (some ⟨wb i, 0, none⟩) q c8, .slice (some ⟨b, o, none⟩) q cw]).run Tryz.prog wr.drew = .ok (goInt ((xl X9 q).map (Value.int .u64)).length) (wr.drew.setCells (wb i) 0 ((xl X9 q).map (Value.int .u64))) := fun ty => by
                refine run_copy_cells wr.drew 35 35 ty 34 (wb i) 0 _ c8 ⟨b, o, none⟩ _ cw _ Tryz.underlying35 siz34m (by rw [hzl]; exact (Nat.min_self _).symm) (fun f v hv => ?_) (fun f hf => ?_) (fun f hf => ?_) (one_us _)
                · have hf : f < q := by have := (List.getElem?_eq_some_iff.1 hv).1; omega
                  have : v = .int .u64 (X9 f : Int) := by unfold xl at hv; simp [hf] at hv; exact hv.symm
                  rw [this, addP]
                  exact (hwx f hf).2
                · obtain ⟨y, hy⟩ : ∃ y, (M i).wds[f]? = some y := ⟨_, List.getElem?_eq_getElem (by have := HGl.out; rw [hzl] at hf; omega)⟩
                  have h7 := hrg f (.int .u64 y) (by rw [List.getElem?_map, hy]; rfl)
                  show (wr.cell? _).isSome = true
                  rw [h7]
                  rfl
                · exact hfz _
              refine ⟨wr.drew.setCells (wb i) 0 ((xl X9 q).map (Value.int .u64)), fun ty => by rw [hrun ty, hzl], (HM4.out.below (below_d _)).setWs hi hxn hxl, Ext.cells ((Ext.of_below HB4.out _).drew) (Or.inr ⟨i, hi, hnl, rfl⟩) _ _, ?_⟩
              have h8 := H0.out.wlt hi hnl
              have h9 := H0.out.ne i hi hnl
              have hE := Ext.cells (Ext.refl wr.drew.heap.size (fun b => b = wb i) wr.drew) rfl ((xl X9 q).map (Value.int .u64)) 0
              exact ⟨(hE.block (w.heap.size + 1) (heap_lt HS4.out) (by show ¬ w.heap.size + 1 = wb i; omega)).trans HS4.out, (hE.cell (p := ⟨w.heap.size, 0, none⟩) (cell_lt y0) (by show ¬ w.heap.size = wb i; omega)).trans y0, (hE.cell (p := ⟨B, i * 6 + 5, none⟩) (cell_lt hsv) (fun z => h9 z.symm)).trans hsv⟩
          have HTl := hideIt hxl
          obtain ⟨w5, hcp, hm5, he5, hs5, hk5⟩ := HCp.out
          have HK5 := hideIt hk5
          have HCr := hideIt hcp
          have HM5 := hideIt hm5
          have HE5 := hideIt he5
          obtain ⟨r0, r1, r2, f0, f1, f2⟩ := three_cells hs5
          have HZ := hideIt (three_set hs5 (.int .u8 0) (.slice none 0 0) (.slice none 0 0))
          have HF : Hid (MsP B wb M X w (.returned (.agg #[.int .u8 0, .slice none 0 0, .slice none 0 0])) (((w5.setCell ⟨w.heap.size + 1, 0, none⟩ (.int .u8 0)).setCell ⟨w.heap.size + 1, 1, none⟩ (.slice none 0 0)).setCell ⟨w.heap.size + 1, 2, none⟩ (.slice none 0 0))) := by
            show MsP _ _ _ _ _ _ _
            rw [HX3.out]
            refine MsP.chg (X := ⟨0, [], []⟩) HM5.out HE5.out (Nat.le_succ _) (fun b hb => ?_) rfl (IsR.nil _ _) (IsU.nil _ _) (.int .u8 0) (.slice none 0 0) (.slice none 0 0)
            have hb2 := updW_tm HTl.out hb
            have := H0.out.tlt hb2
            exact ⟨by omega, Or.inl hb2⟩
          clear hbr hd hxl HCp hcp hm5 he5 hs5 hk5
          go_wp2_with fail
          go_region_held3 (fun w' => w'.cell? ⟨w.heap.size, 0, none⟩ = some (.int .u16 (i : Int)) ∧ w'.cell? ⟨B, i * 6 + 5, none⟩ = some (.slice ad8 q c8)) (first | exact HK5.out | go_keep)
            ((refine step_copy_r rfl _ _ 35 35 rfl (.slice ad8 q c8) (.slice ad q cw) (by first | rfl | simp [Act.eval] | simp [Act.eval, Act.put]) (by first | rfl | simp [Act.eval] | simp [Act.eval, Act.put]) (HCr.out _) ?_))
          go_wp2_with fail
          refine bodyPost_ret (v := .agg #[.int .u8 0, (.slice none 0 0), (.slice none 0 0)]) ?_ rfl HF.out
          exact results_cell_row (by exact Tryz.results85) _ _ (w.heap.size + 1) _ _ _ _ (by rfl) (by exact HZ.out) Tryz.underlying57 rfl (by kernel_rfl)
    · have HX3 : Hid (X = (bad 13, M)) := by show X = _; rw [HX.out]; unfold staX cX; rw [if_neg (by rw [HCK.out]; simp), if_pos (fun z => hlm (by unfold xl at z; simpa using z))]; rfl
      clear hd HX
      generalize (M i).wds.length = wl at *
      have hnb : ((m : Int) != (wl : Int)) = true := by rw [bne_iff_ne]; omega
      go_wp2_with fail
      go_quiet (fail)
      have HB2 := hideIt (Below.thr HB1.out (belowN w1 nq))
      have HS2 : Hid ((w1.drewN nq).heap[w.heap.size + 1]? = some (.cells #[.int .u8 0, .slice none 0 0, .slice none 0 0] 57 (0, 0))) := HS1.out
      have HM2 := hideIt (HM1.out.below (belowN w1 nq))
      have HR2 : Hid ((w1.drewN nq).heap[w.heap.size]? = some (.cells #[.int .u16 (i : Int), .int .u32 g] 32 (0, 0))) := HR1.out
      clear HB1 HS1 HM1 HR1 y0 y1 hsv
      generalize w1.drewN nq = w2 at *
      go_wp2_with (go_at_call 90; refine (fail_m _ _).mono ?_; rintro e w3 ⟨rfl, hb3⟩; have hs3 := (hb3.block _ (heap_lt HS2.out)).trans HS2.out; obtain ⟨q0, q1, q2, k0, k1, k2⟩ := three_cells hs3; have HZ := hideIt (three_set hs3 (.int .u8 13) (.slice none 0 0) (.slice none 0 0)); have HF := hideIt (MsP.bad H0.out ((((Below.thr HB2.out hb3).setCell (p := ⟨w.heap.size + 1, 0, none⟩) (Nat.le_succ _) (.int .u8 13)).setCell (p := ⟨w.heap.size + 1, 1, none⟩) (Nat.le_succ _) (.slice none 0 0)).setCell (p := ⟨w.heap.size + 1, 2, none⟩) (Nat.le_succ _) (.slice none 0 0)) HX3.out); clear hb3 hs3)
      refine bodyPost_ret (v := .agg #[.int .u8 13, (.slice none 0 0), (.slice none 0 0)]) ?_ rfl HF.out
      exact results_cell_row (by exact Tryz.results85) _ _ (w.heap.size + 1) _ _ _ _ (by rfl) (by exact HZ.out) Tryz.underlying57 rfl (by kernel_rfl)
  · have hX2 : X = (bad (chk M i g), M) := by rw [HX.out]; unfold staX cX; rw [if_pos hc]; rfl
    have HX2 := hideIt hX2
    have hcb : (chk M i g != 0) = true := by rw [bne_iff_ne]; exact hc
    clear hX2 hc HX
    generalize chk M i g = c at *
    go_enter Tryz.func85, Tryz.ntmps85
    go_upto_region 1 with fail
    rw [show (w.alloc (.cells #[.int .u16 (i : Int), .int .u32 g] 32)).alloc (.cells #[.int .u8 0, .slice none 0 0, .slice none 0 0] 57) = stW i g w from rfl]
    generalize stW i g w = w0 at *
    go_wp2_with fail
    go_at_call 211
    refine HC.out.mono ?_
    rintro e w1 ⟨rfl, hb1⟩
    have HB1 := hideIt (Below.thr HB.out hb1)
    have HS1 := hideIt ((hb1.block _ (heap_lt HS.out)).trans HS.out)
    clear hb1 x0 x1 HC HM HS HR HB
    go_wp2_with (go_at_call 90; refine (fail_m _ _).mono ?_; rintro e w3 ⟨rfl, hb3⟩; have hs3 := (hb3.block _ (heap_lt HS1.out)).trans HS1.out; obtain ⟨q0, q1, q2, k0, k1, k2⟩ := three_cells hs3; have HZ := hideIt (three_set hs3 (.int .u8 c) (.slice none 0 0) (.slice none 0 0)); have HF := hideIt (MsP.bad H0.out ((((Below.thr HB1.out hb3).setCell (p := ⟨w.heap.size + 1, 0, none⟩) (Nat.le_succ _) (.int .u8 c)).setCell (p := ⟨w.heap.size + 1, 1, none⟩) (Nat.le_succ _) (.slice none 0 0)).setCell (p := ⟨w.heap.size + 1, 2, none⟩) (Nat.le_succ _) (.slice none 0 0)) HX2.out); clear hb3 hs3)
    refine bodyPost_ret (v := .agg #[.int .u8 c, (.slice none 0 0), (.slice none 0 0)]) ?_ rfl HF.out
    exact results_cell_row (by exact Tryz.results85) _ _ (w.heap.size + 1) _ _ _ _ (by rfl) (by exact HZ.out) Tryz.underlying57 rfl (by kernel_rfl)
end
end Go.Proofs.Qxb6500847aGreatDoor.Os
