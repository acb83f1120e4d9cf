/-
  The abstract model: loadAll.
-/
import Derived.Test.Qxb6500847aGreatDoorMdJ
import Derived.Test.Qxb6500847aGreatDoorMdW
import Derived.Deep.AppendLies
import Derived.Deep.RegionHeld3
namespace Go.Proofs.Qxb6500847aGreatDoor.Os
open Go.RowKit FloorA
set_option maxRecDepth 100000
section
variable {w w' : World} {B : Nat} {wb : Nat → Nat} {M : Nat → En}
set_option maxHeartbeats 4000000 in
theorem loadAll_m (h : Md w B wb M) (hM : Mk M) (i : Nat) (h6 : i < 65536) (g : Int) :
    Calls Tryz.prog 84 #[.pointer (some ⟨B, 0, none⟩), .agg #[.int .u16 (i : Int), .int .u32 g]] w (MsP B wb M (lalX M i g, M) w) := by
  have hb0 := stW_below i g w
  obtain ⟨x0, x1, _, _⟩ := two_cells (stW_r i g w)
  have HR := hideIt (stW_r i g w)
  have HS := hideIt (stW_s i g w)
  have H0 := hideIt h
  have HM := hideIt (h.below hb0)
  have HMk := hideIt hM
  have HB := hideIt hb0
  have HC := hideIt (check_m HM.out i h6 g)
  obtain ⟨X, hX⟩ : ∃ X, X = (lalX M i g, M) := ⟨_, rfl⟩
  rw [← hX]
  have HX := hideIt hX
  clear h hb0 hM hX
  by_cases hc : chk M i g = 0
  · obtain ⟨hi, _, _, _⟩ := chk_lt hc
    have i3 : (i : Int) < 320 := by omega
    obtain ⟨k2, hi2, hz2, hs2, hb2⟩ := info_parts inf34m
    rw [hc] at HC
    have HCK : Hid (chk M i g = 0) := hc
    have i6 : wrap64 (i : Int) = (i : Int) := by unfold wrap64; omega
    clear hc
    go_enter Tryz.func84, Tryz.ntmps84
    go_upto_region 1 with fail
    rw [show (w.alloc (.cells #[.int .u16 (i : Int), .int .u32 g] 32)).alloc (.cells #[.int .u8 0, .slice none 0 0, .slice none 0 0] 57) = stW i g w from rfl]
    generalize stW i g w = w0 at *
    go_wp2_with fail
    go_at_call 211
    refine HC.out.mono ?_
    rintro e w1 ⟨rfl, hb1⟩
    have hr1 := (hb1.block _ (heap_lt HR.out)).trans HR.out
    obtain ⟨y0, y1, _, _⟩ := two_cells hr1
    have HB1 := hideIt (Below.thr HB.out hb1)
    have HM1 := hideIt (HM.out.below hb1)
    have HS1 := hideIt ((hb1.block _ (heap_lt HS.out)).trans HS.out)
    have HR1 := hideIt hr1
    clear hb1 hr1 x0 x1 HC HM HS HR HB
    obtain ⟨sv, hsv, hd⟩ := HM1.out.wrd i hi
    have hwl : (M i).wds.length ≤ 112 := HMk.out.wlen i hi
    have HX3 : Hid (X = (⟨0, [], (M i).wds⟩, M)) := by show X = _; rw [HX.out]; unfold lalX; rw [if_neg (by rw [HCK.out]; simp)]
    have KR := hideIt (fun w' (k : Below w1.heap.size w1 w') => three_cells ((k.block (w.heap.size + 1) (heap_lt HS1.out)).trans HS1.out))
    obtain ⟨r0, r1, r2, f0, f1, f2⟩ := KR.out w1 (Below.refl _ _)
    by_cases hnl : (M i).wds = []
    · obtain ⟨ad, c9, rfl⟩ := hd.form
      have hl0 : (M i).wds.length = 0 := by rw [hnl]; rfl
      rw [hl0] at hsv
      rw [hnl] at HX3
      clear hd HX hl0 hnl hwl
      rcases ad with _ | ad
      all_goals
        go_wp2_with fail
        go_region
        have HF : Hid (MsP B wb M X w (.returned (.agg #[.int .u8 0, (.slice none 0 0), (.slice none 0 0)])) (((w1.setCell ⟨w.heap.size + 1, 0, none⟩ (.int .u8 0)).setCell ⟨w.heap.size + 1, 1, none⟩ (.slice none 0 0)).setCell ⟨w.heap.size + 1, 2, none⟩ (.slice none 0 0)).drew) := by
          show MsP _ _ _ _ _ _ _
          rw [HX3.out]
          exact (MsP.fin H0.out (HB1.out) rfl (IsR.nil _ _) (IsU.nil _ _) (.int .u8 0) (.slice none 0 0) (.slice none 0 0)).drew
        have HZ : Hid ((((w1.setCell ⟨w.heap.size + 1, 0, none⟩ (.int .u8 0)).setCell ⟨w.heap.size + 1, 1, none⟩ (.slice none 0 0)).setCell ⟨w.heap.size + 1, 2, none⟩ (.slice none 0 0)).drew.heap[w.heap.size + 1]? = some (.cells #[.int .u8 0, (.slice none 0 0), (.slice none 0 0)] 57 (0, 0))) := three_set (HS1.out) (.int .u8 0) (.slice none 0 0) (.slice none 0 0)
        go_wp2_with fail
        refine bodyPost_ret (v := .agg #[.int .u8 0, (.slice none 0 0), (.slice none 0 0)]) ?_ rfl HF.out
        exact results_cell_row (by exact Tryz.results84) _ _ (w.heap.size + 1) _ _ _ _ (by rfl) (by exact HZ.out) Tryz.underlying57 rfl (by kernel_rfl)
    · obtain ⟨hrg, hfz⟩ := hd.rng hnl
      obtain ⟨c9, rfl, hcc⟩ : ∃ c, sv = .slice (some ⟨wb i, 0, none⟩) (M i).wds.length c ∧ c ≤ maxLen := by
        rcases hd with ⟨e, _⟩ | ⟨_, c, e1, e2, e3, _⟩
        · exact absurd e hnl
        · exact ⟨c, e1, e3⟩
      have hlp : 0 < (M i).wds.length := List.length_pos_iff.2 hnl
      have HRg : Hid (∀ (w' : World), Below w1.heap.size w1 w' → ∀ j u, ((M i).wds.map (Value.int .u64))[j]? = some u → w'.cell? ((⟨wb i, 0, none⟩ : Addr).add j) = some u) := fun w' hb j u hu => by
        have h7 := hrg j u hu
        rw [Nat.zero_add] at h7
        rw [addP, Nat.zero_add]
        exact (hb.cell (p := ⟨wb i, j, none⟩) (cell_lt h7)).trans h7
      have HLm : Hid (((M i).wds.map (Value.int .u64)).length = (M i).wds.length * 1) := by show _ = _; simp
      have HOn := hideIt (one_us (M i).wds)
      obtain ⟨l, hl⟩ : ∃ l, l = (M i).wds := ⟨_, rfl⟩
      obtain ⟨zs, hzs⟩ : ∃ zs, zs = (M i).wds.map (Value.int .u64) := ⟨_, rfl⟩
      rw [← hzs] at HRg HLm HOn
      rw [← hl] at HX3
      have HZs : Hid (zs = l.map (Value.int .u64)) := by show zs = _; rw [hzs, hl]
      have HLn : Hid ((M i).wds.length = l.length) := by show _ = _; rw [hl]
      have KS : Hid (∀ w', Below w1.heap.size w1 w' → w'.cell? ⟨w.heap.size, 0, none⟩ = some (.int .u16 (i : Int)) ∧ w'.cell? ⟨B, i * 6 + 5, none⟩ = some (.slice (some ⟨wb i, 0, none⟩) (M i).wds.length c9)) := fun w' hb => ⟨(hb.cell (p := ⟨w.heap.size, 0, none⟩) (cell_lt y0)).trans y0, (hb.cell (p := ⟨B, i * 6 + 5, none⟩) (cell_lt hsv)).trans hsv⟩
      have ne1 : w.heap.size + 1 ≠ w.heap.size := by omega
      have ne2 : w.heap.size + 1 ≠ B := by have := H0.out.lt; omega
      clear hd HX hnl hrg hfz hzs hl
      generalize (M i).wds.length = wl at *
      go_wp2_with fail
      go_region_held3 (fun w' => w'.cell? ⟨w.heap.size, 0, none⟩ = some (.int .u16 (i : Int)) ∧ w'.cell? ⟨B, i * 6 + 5, none⟩ = some (.slice (some ⟨wb i, 0, none⟩) wl c9)) (first | exact KS.out _ hb5 | go_keep)
        ((refine step_append_lies _ rfl _ _ 35 rfl w1.heap.size 34 k2 (.int .u64 0) 1 8 Tryz.underlying35 hi2 hz2 hs2 hb2 rfl (by decide) (.slice none 0 0) 0 [] (by first | rfl | simp [Act.eval] | simp [Act.eval, Act.put]) (World.ownsRow_nil _ _ _ _) ⟨wb i, 0, none⟩ wl c9 zs (by first | rfl | simp [Act.eval] | simp [Act.eval, Act.put]) HLm.out (HRg.out _ (below_d _)) HOn.out hlp (by unfold maxLen; omega) (by omega) (Nat.le_refl _) w1.heap.size rfl ?_; intro a9 c8 w5 hown5 hgr5 hg5 hlt5; have hb5 : Below w1.heap.size w1 w5 := Below.thr (below_d w1) ⟨hgr5.os, hgr5.tape, hgr5.output, hgr5.size, fun q hq => hgr5.block q hq (fun e => by cases e)⟩; obtain ⟨b0, b1, b2, g0, g1, g2⟩ := KR.out w5 hb5; obtain ⟨s1, s2⟩ := KS.out w5 hb5))
      simp only [Nat.zero_add, List.nil_append] at hown5
      have hiu : IsU (w.heap.size + 2) w5 (.slice (some ⟨a9, 0, none⟩) wl c8) l := by
        have h7 := Sq.mono (Sq.of_owns hown5 ⟨_, c8, rfl⟩) (show w.heap.size + 2 ≤ w1.heap.size by have := heap_lt HS1.out; omega)
        rw [HZs.out] at h7
        unfold IsU
        rw [← HLn.out]
        exact h7
      have hs5 := (hb5.block _ (heap_lt HS1.out)).trans HS1.out
      have HZ := hideIt (three_set hs5 (.int .u8 0) (.slice none 0 0) (.slice (some ⟨a9, 0, none⟩) wl c8))
      have HF : Hid (MsP B wb M X w (.returned (.agg #[.int .u8 0, .slice none 0 0, .slice (some ⟨a9, 0, none⟩) wl c8])) (((w5.setCell ⟨w.heap.size + 1, 0, none⟩ (.int .u8 0)).setCell ⟨w.heap.size + 1, 1, none⟩ (.slice none 0 0)).setCell ⟨w.heap.size + 1, 2, none⟩ (.slice (some ⟨a9, 0, none⟩) wl c8))) := by
        show MsP _ _ _ _ _ _ _
        rw [HX3.out]
        exact MsP.fin (X := ⟨0, [], l⟩) H0.out (Below.thr HB1.out hb5) rfl (IsR.nil _ _) hiu (.int .u8 0) (.slice none 0 0) (.slice (some ⟨a9, 0, none⟩) wl c8)
      clear hown5 hgr5 hg5 hlt5 hb5 hiu hs5
      go_wp2_with fail
      refine bodyPost_ret (v := .agg #[.int .u8 0, (.slice none 0 0), (.slice (some ⟨a9, 0, none⟩) wl c8)]) ?_ rfl HF.out
      exact results_cell_row (by exact Tryz.results84) _ _ (w.heap.size + 1) _ _ _ _ (by rfl) (by exact HZ.out) Tryz.underlying57 rfl (by kernel_rfl)
  · have hX2 : X = (bad (chk M i g), M) := by rw [HX.out]; unfold lalX; rw [if_pos hc]
    have HX2 := hideIt hX2
    have hcb : (chk M i g != 0) = true := by rw [bne_iff_ne]; exact hc
    clear hX2 hc HX
    generalize chk M i g = c at *
    go_enter Tryz.func84, Tryz.ntmps84
    go_upto_region 1 with fail
    rw [show (w.alloc (.cells #[.int .u16 (i : Int), .int .u32 g] 32)).alloc (.cells #[.int .u8 0, .slice none 0 0, .slice none 0 0] 57) = stW i g w from rfl]
    generalize stW i g w = w0 at *
    go_wp2_with fail
    go_at_call 211
    refine HC.out.mono ?_
    rintro e w1 ⟨rfl, hb1⟩
    have HB1 := hideIt (Below.thr HB.out hb1)
    have HS1 := hideIt ((hb1.block _ (heap_lt HS.out)).trans HS.out)
    clear hb1 x0 x1 HC HM HS HR HB
    go_wp2_with (go_at_call 90; refine (fail_m _ _).mono ?_; rintro e w3 ⟨rfl, hb3⟩; have hs3 := (hb3.block _ (heap_lt HS1.out)).trans HS1.out; obtain ⟨q0, q1, q2, k0, k1, k2⟩ := three_cells hs3; have HZ := hideIt (three_set hs3 (.int .u8 c) (.slice none 0 0) (.slice none 0 0)); have HF := hideIt (MsP.bad H0.out ((((Below.thr HB1.out hb3).setCell (p := ⟨w.heap.size + 1, 0, none⟩) (Nat.le_succ _) (.int .u8 c)).setCell (p := ⟨w.heap.size + 1, 1, none⟩) (Nat.le_succ _) (.slice none 0 0)).setCell (p := ⟨w.heap.size + 1, 2, none⟩) (Nat.le_succ _) (.slice none 0 0)) HX2.out); clear hb3 hs3)
    refine bodyPost_ret (v := .agg #[.int .u8 c, (.slice none 0 0), (.slice none 0 0)]) ?_ rfl HF.out
    exact results_cell_row (by exact Tryz.results84) _ _ (w.heap.size + 1) _ _ _ _ (by rfl) (by exact HZ.out) Tryz.underlying57 rfl (by kernel_rfl)
end
end Go.Proofs.Qxb6500847aGreatDoor.Os
