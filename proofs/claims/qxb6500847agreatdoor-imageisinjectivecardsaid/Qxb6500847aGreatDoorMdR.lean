/-
  The abstract model: within.
-/
import Derived.Test.Qxb6500847aGreatDoorMdM
import Derived.Test.Qxb6500847aGreatDoorMdN
namespace Go.Proofs.Qxb6500847aGreatDoor.Os
open Go.RowKit FloorA
set_option maxRecDepth 100000
/-- The three boxes of a step that takes two references. -/
def stV (i : Nat) (g : Int) (j : Nat) (k : Int) (w : World) : World := ((w.alloc (.cells #[.int .u16 (i : Int), .int .u32 g] 32)).alloc (.cells #[.int .u16 (j : Int), .int .u32 k] 32)).alloc (.cells #[.int .u8 0, .slice none 0 0, .slice none 0 0] 57)
theorem stV_below (i : Nat) (g : Int) (j : Nat) (k : Int) (w : World) : Below w.heap.size w (stV i g j k w) := Below.thr (two_below (w := w) _ _) (alloc_below _)
theorem stV_i (i : Nat) (g : Int) (j : Nat) (k : Int) (w : World) : (stV i g j k w).heap[w.heap.size]? = some (.cells #[.int .u16 (i : Int), .int .u32 g] 32 (0, 0)) := (heap_alloc_old _ _ (by simp; omega)).trans ((heap_alloc_old _ _ (by simp)).trans (heap_new _ _))
theorem stV_j (i : Nat) (g : Int) (j : Nat) (k : Int) (w : World) : (stV i g j k w).heap[w.heap.size + 1]? = some (.cells #[.int .u16 (j : Int), .int .u32 k] 32 (0, 0)) := (heap_alloc_old _ _ (by simp)).trans (new_at _ _ (by simp))
theorem stV_s (i : Nat) (g : Int) (j : Nat) (k : Int) (w : World) : (stV i g j k w).heap[w.heap.size + 2]? = some (.cells #[.int .u8 0, .slice none 0 0, .slice none 0 0] 57 (0, 0)) := new_at _ _ (by simp)
section
variable {w w' : World} {B : Nat} {wb : Nat → Nat} {M : Nat → En}
set_option maxHeartbeats 8000000 in
theorem within_m (h : Md w B wb M) (hUp : ∀ j, j < 320 → (M j).typ ≠ 0 → ∃ l, Up M (M j).par l) (i : Nat) (h6 : i < 65536) (g : Int) (j : Nat) (j6 : j < 65536) (k : Int) :
    Calls Tryz.prog 89 #[.pointer (some ⟨B, 0, none⟩), .agg #[.int .u16 (i : Int), .int .u32 g], .agg #[.int .u16 (j : Int), .int .u32 k]] w (MsP B wb M (witX M i g j k, M) w) := by
  have hb0 := stV_below i g j k w
  obtain ⟨x0, x1, _, _⟩ := two_cells (stV_i i g j k w)
  obtain ⟨v0, v1, _, _⟩ := two_cells (stV_j i g j k w)
  have HI := hideIt (stV_i i g j k w)
  have HJ := hideIt (stV_j i g j k w)
  have HS := hideIt (stV_s i g j k w)
  have H0 := hideIt h
  have HM := hideIt (h.below hb0)
  have HB := hideIt hb0
  have HC := hideIt (check_m HM.out i h6 g)
  obtain ⟨X, hX⟩ : ∃ X, X = (witX M i g j k, M) := ⟨_, rfl⟩
  rw [← hX]
  have HX := hideIt hX
  have i6 : wrap64 (i : Int) = (i : Int) := by unfold wrap64; omega
  have jw : wrap64 (j : Int) = (j : Int) := by unfold wrap64; omega
  clear h hb0 hX
  by_cases hc : chk M i g = 0
  · obtain ⟨hi, _, htn, _⟩ := chk_lt hc
    obtain ⟨l0, hU0⟩ := hUp i hi htn
    rw [hc] at HC
    have HCK : Hid (chk M i g = 0) := hc
    clear hc hUp htn
    go_enter Tryz.func89, Tryz.ntmps89
    go_upto_region 1 with fail
    rw [show ((w.alloc (.cells #[.int .u16 (i : Int), .int .u32 g] 32)).alloc (.cells #[.int .u16 (j : Int), .int .u32 k] 32)).alloc (.cells #[.int .u8 0, .slice none 0 0, .slice none 0 0] 57) = stV i g j k w from rfl]
    generalize stV i g j k w = w0 at *
    go_wp2_with fail
    go_at_call 211
    refine HC.out.mono ?_
    rintro e w1 ⟨rfl, hb1⟩
    have HB1 := hideIt (Below.thr HB.out hb1)
    have HS1 := hideIt ((hb1.block _ (heap_lt HS.out)).trans HS.out)
    have HC2 := hideIt (checkR_m (HM.out.below hb1) j j6 k)
    have hi1 := (hb1.block _ (heap_lt HI.out)).trans HI.out
    have hj1 := (hb1.block _ (heap_lt HJ.out)).trans HJ.out
    have HI1 := hideIt hi1
    have HJ1 := hideIt hj1
    have HM1 := hideIt (HM.out.below hb1)
    obtain ⟨y0, y1, _, _⟩ := two_cells hi1
    obtain ⟨t0, t1, _, _⟩ := two_cells hj1
    clear hb1 hi1 hj1 x0 x1 v0 v1 HC HM HS HI HJ HB
    by_cases hd : chkR M j k = 0
    · have HX3 : Hid (X = (⟨0, [], [if j ∈ l0 then 1 else 0]⟩, M)) := by show X = _; rw [HX.out]; unfold witX; rw [if_neg (by rw [HCK.out]; simp), if_neg (by rw [hd]; simp), anc_eq hU0]
      rw [hd] at HC2
      clear hd HX
      go_wp2_with fail
      go_at_call 214
      refine HC2.out.mono ?_
      rintro e w2 ⟨rfl, hb2⟩
      have HB2 := hideIt (Below.thr HB1.out hb2)
      have hs2 := (hb2.block _ (heap_lt HS1.out)).trans HS1.out
      have HS2 := hideIt hs2
      have HBe := hideIt (below_m (i := j) (HM1.out.below hb2) hi hU0)
      obtain ⟨a0, a1, _, _⟩ := two_cells ((hb2.block _ (heap_lt HI1.out)).trans HI1.out)
      obtain ⟨c0, c1, _, _⟩ := two_cells ((hb2.block _ (heap_lt HJ1.out)).trans HJ1.out)
      clear hb2 y0 y1 t0 t1 HC2 HM1 HS1 HI1 HJ1 HB1 hU0
      by_cases hm : j ∈ l0
      · have hde : decide (j ∈ l0) = true := by simp [hm]
        rw [hde] at HBe
        have HX4 : Hid (X = (⟨0, [], [1]⟩, M)) := by show X = _; rw [HX3.out, if_pos hm]
        clear hde hm HX3
        obtain ⟨r0, r1, r2, f0, f1, f2⟩ := three_cells ((heap_alloc_old w2 (.cells #[.int .u64 1] 34) (heap_lt hs2)).trans hs2)
        have HZ := hideIt (three_set ((heap_alloc_old w2 (.cells #[.int .u64 1] 34) (heap_lt HS2.out)).trans HS2.out) (.int .u8 0) (.slice none 0 0) (.slice (some ⟨w2.heap.size, 0, none⟩) 1 1))
        have HF : Hid (MsP B wb M X w (.returned (.agg #[.int .u8 0, .slice none 0 0, .slice (some ⟨w2.heap.size, 0, none⟩) 1 1])) ((((w2.alloc (.cells #[.int .u64 1] 34)).setCell ⟨w.heap.size + 2, 0, none⟩ (.int .u8 0)).setCell ⟨w.heap.size + 2, 1, none⟩ (.slice none 0 0)).setCell ⟨w.heap.size + 2, 2, none⟩ (.slice (some ⟨w2.heap.size, 0, none⟩) 1 1))) := by
          show MsP _ _ _ _ _ _ _
          rw [HX4.out]
          exact MsP.finR (R := w.heap.size + 2) (X := ⟨0, [], [1]⟩) H0.out (Below.thr HB2.out (alloc_below _)) (by omega) rfl (IsR.nil _ _) (isU_new (l := [1]) (heap_new _ _) (by have := heap_lt HS2.out; omega)) (.int .u8 0) (.slice none 0 0) (.slice (some ⟨w2.heap.size, 0, none⟩) 1 1)
        clear hs2
        go_wp2_with (go_at_call 215; refine HBe.out.mono ?_; rintro e w' ⟨rfl, hw'⟩; obtain rfl := hw'.symm)
        refine bodyPost_ret (v := .agg #[.int .u8 0, (.slice none 0 0), (.slice (some ⟨w2.heap.size, 0, none⟩) 1 1)]) ?_ rfl HF.out
        exact results_cell_row (by exact Tryz.results89) _ _ (w.heap.size + 2) _ _ _ _ (by rfl) (by exact HZ.out) Tryz.underlying57 rfl (by kernel_rfl)
      · have hde : decide (j ∈ l0) = false := by simp [hm]
        rw [hde] at HBe
        have HX4 : Hid (X = (⟨0, [], [0]⟩, M)) := by show X = _; rw [HX3.out, if_neg hm]
        clear hde hm HX3
        obtain ⟨r0, r1, r2, f0, f1, f2⟩ := three_cells ((heap_alloc_old w2 (.cells #[.int .u64 0] 34) (heap_lt hs2)).trans hs2)
        have HZ := hideIt (three_set ((heap_alloc_old w2 (.cells #[.int .u64 0] 34) (heap_lt HS2.out)).trans HS2.out) (.int .u8 0) (.slice none 0 0) (.slice (some ⟨w2.heap.size, 0, none⟩) 1 1))
        have HF : Hid (MsP B wb M X w (.returned (.agg #[.int .u8 0, .slice none 0 0, .slice (some ⟨w2.heap.size, 0, none⟩) 1 1])) ((((w2.alloc (.cells #[.int .u64 0] 34)).setCell ⟨w.heap.size + 2, 0, none⟩ (.int .u8 0)).setCell ⟨w.heap.size + 2, 1, none⟩ (.slice none 0 0)).setCell ⟨w.heap.size + 2, 2, none⟩ (.slice (some ⟨w2.heap.size, 0, none⟩) 1 1))) := by
          show MsP _ _ _ _ _ _ _
          rw [HX4.out]
          exact MsP.finR (R := w.heap.size + 2) (X := ⟨0, [], [0]⟩) H0.out (Below.thr HB2.out (alloc_below _)) (by omega) rfl (IsR.nil _ _) (isU_new (l := [0]) (heap_new _ _) (by have := heap_lt HS2.out; omega)) (.int .u8 0) (.slice none 0 0) (.slice (some ⟨w2.heap.size, 0, none⟩) 1 1)
        clear hs2
        go_wp2_with (go_at_call 215; refine HBe.out.mono ?_; rintro e w' ⟨rfl, hw'⟩; obtain rfl := hw'.symm)
        refine bodyPost_ret (v := .agg #[.int .u8 0, (.slice none 0 0), (.slice (some ⟨w2.heap.size, 0, none⟩) 1 1)]) ?_ rfl HF.out
        exact results_cell_row (by exact Tryz.results89) _ _ (w.heap.size + 2) _ _ _ _ (by rfl) (by exact HZ.out) Tryz.underlying57 rfl (by kernel_rfl)
    · have HX3 : Hid (X = (Os.bad (chkR M j k), M)) := by show X = _; rw [HX.out]; unfold witX; rw [if_neg (by rw [HCK.out]; simp), if_pos hd]
      have hcb : (chkR M j k != 0) = true := by rw [bne_iff_ne]; exact hd
      clear hd HX hU0
      generalize chkR M j k = c at *
      go_wp2_with fail
      go_at_call 214
      refine HC2.out.mono ?_
      rintro e w2 ⟨rfl, hb2⟩
      have HB2 := hideIt (Below.thr HB1.out hb2)
      have HS2 := hideIt ((hb2.block _ (heap_lt HS1.out)).trans HS1.out)
      clear hb2 y0 y1 t0 t1 HC2 HM1 HS1 HI1 HJ1 HB1
      go_wp2_with (go_at_call 90; refine (fail_m _ _).mono ?_; rintro e w3 ⟨rfl, hb3⟩; have hs3 := (hb3.block _ (heap_lt HS2.out)).trans HS2.out; obtain ⟨q0, q1, q2, k0, k1, k2⟩ := three_cells hs3; have HZ := hideIt (three_set hs3 (.int .u8 c) (.slice none 0 0) (.slice none 0 0)); have HF := hideIt (MsP.badR (R := w.heap.size + 2) H0.out (Below.thr HB2.out hb3) (by omega) HX3.out (.int .u8 c) (.slice none 0 0) (.slice none 0 0)); clear hb3 hs3)
      refine bodyPost_ret (v := .agg #[.int .u8 c, (.slice none 0 0), (.slice none 0 0)]) ?_ rfl HF.out
      exact results_cell_row (by exact Tryz.results89) _ _ (w.heap.size + 2) _ _ _ _ (by rfl) (by exact HZ.out) Tryz.underlying57 rfl (by kernel_rfl)
  · have HX3 : Hid (X = (Os.bad (chk M i g), M)) := by show X = _; rw [HX.out]; unfold witX; rw [if_pos hc]
    have hcb : (chk M i g != 0) = true := by rw [bne_iff_ne]; exact hc
    clear hc HX hUp
    generalize chk M i g = c at *
    go_enter Tryz.func89, Tryz.ntmps89
    go_upto_region 1 with fail
    rw [show ((w.alloc (.cells #[.int .u16 (i : Int), .int .u32 g] 32)).alloc (.cells #[.int .u16 (j : Int), .int .u32 k] 32)).alloc (.cells #[.int .u8 0, .slice none 0 0, .slice none 0 0] 57) = stV i g j k w from rfl]
    generalize stV i g j k w = w0 at *
    go_wp2_with fail
    go_at_call 211
    refine HC.out.mono ?_
    rintro e w1 ⟨rfl, hb1⟩
    have HB1 := hideIt (Below.thr HB.out hb1)
    have HS1 := hideIt ((hb1.block _ (heap_lt HS.out)).trans HS.out)
    clear hb1 x0 x1 v0 v1 HC HM HS HI HJ HB
    go_wp2_with (go_at_call 90; refine (fail_m _ _).mono ?_; rintro e w3 ⟨rfl, hb3⟩; have hs3 := (hb3.block _ (heap_lt HS1.out)).trans HS1.out; obtain ⟨q0, q1, q2, k0, k1, k2⟩ := three_cells hs3; have HZ := hideIt (three_set hs3 (.int .u8 c) (.slice none 0 0) (.slice none 0 0)); have HF := hideIt (MsP.badR (R := w.heap.size + 2) H0.out (Below.thr HB1.out hb3) (by omega) HX3.out (.int .u8 c) (.slice none 0 0) (.slice none 0 0)); clear hb3 hs3)
    refine bodyPost_ret (v := .agg #[.int .u8 c, (.slice none 0 0), (.slice none 0 0)]) ?_ rfl HF.out
    exact results_cell_row (by exact Tryz.results89) _ _ (w.heap.size + 2) _ _ _ _ (by rfl) (by exact HZ.out) Tryz.underlying57 rfl (by kernel_rfl)
end
end Go.Proofs.Qxb6500847aGreatDoor.Os
