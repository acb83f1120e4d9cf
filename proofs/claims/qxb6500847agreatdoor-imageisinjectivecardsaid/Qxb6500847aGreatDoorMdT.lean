/-
  The abstract model: fit.
-/
import Derived.Test.Qxb6500847aGreatDoorMdK
namespace Go.Proofs.Qxb6500847aGreatDoor.Os
open Go.RowKit FloorA
set_option maxRecDepth 100000
section
variable {s : Av} {tl : Nat → List Int} {ws : Nat → Nat → Nat → Int} {L : Nat → List Nat} {n : Nat}
theorem plM_rng (M : Nat → En) (i : Nat) (g : Int) (t bt : Nat) : plM M i g t bt = 0 ∨ plM M i g t bt = 1 ∨ plM M i g t bt = 2 ∨ plM M i g t bt = 3 ∨ plM M i g t bt = 4 ∨ plM M i g t bt = 5 := by
  unfold plM chkR chk szC
  repeat' split
  all_goals omega
/-- The largest count that fits. -/
noncomputable def fiN (M : Nat → En) (i t bt : Nat) : Int := min (min (if spM M i t bt < 32 then (spM M i t bt : Int) else 32) ((spr M (loT t) (hiT t)).length : Int)) (rmM M t)
theorem fiN_lt {M : Nat → En} {i t bt k : Nat} {g : Int} (hp : plM M i g t bt = 0) (h1 : 1 ≤ k) (h2 : k ≤ 32) : mrM M i g t bt k = 0 ↔ (k : Int) ≤ fiN M i t bt := by
  unfold mrM fiN
  rw [if_neg (by rw [hp]; simp), if_neg (by omega)]
  by_cases a : spM M i t bt < k
  · rw [if_pos a, if_pos (by omega)]
    constructor <;> intro q <;> omega
  · rw [if_neg a]
    by_cases b : (spr M (loT t) (hiT t)).length < k
    · rw [if_pos b]
      constructor
      · intro q; omega
      · intro q; split at q <;> omega
    · rw [if_neg b]
      by_cases c : rmM M t < (k : Int)
      · rw [if_pos c]
        constructor
        · intro q; omega
        · intro q; split at q <;> omega
      · rw [if_neg c]
        constructor
        · intro _; split <;> omega
        · intro _; rfl
theorem mrM_ok {M : Nat → En} {i t bt k : Nat} {g : Int} (hp : plM M i g t bt = 0) : mrM M i g t bt k = 0 ∨ 6 ≤ mrM M i g t bt k := by
  unfold mrM
  rw [if_neg (by rw [hp]; simp)]
  repeat' split
  all_goals omega
theorem rmM_nn (h : Sd s tl ws L n) {t : Nat} (h1 : 1 ≤ t) (h7 : t ≤ 7) : 0 ≤ rmM (ob s ws) t := by
  unfold rmM
  by_cases q : t = 1
  · rw [if_pos q]; decide
  · rw [if_neg q]
    have e := h.ix.ct.tl (t - 2) (by omega)
    have e2 : sumF (fun i => one ((ob s ws i).typ = (t : Int))) 320 = sumF (fun i => one ((s.hd i).typ = ((t - 2 + 2 : Nat) : Int))) 320 := sumF_congr (fun i hi => by rw [ob_at _ _ hi, show t - 2 + 2 = t by omega])
    rw [e2]
    omega
variable {w : World} {B : Nat} {wb : Nat → Nat}
set_option maxHeartbeats 8000000 in
theorem fit_m (h : Md w B wb (ob s ws)) (hS : Sd s tl ws L n) {i t bt : Nat} {g : Int} (h6 : i < 65536) (hbt : bt < 256) :
    Calls Tryz.prog 72 #[.pointer (some ⟨B, 0, none⟩), .agg #[.int .u16 (i : Int), .int .u32 g], .int .u8 (t : Int), .int .u8 (bt : Int)] w (MsP B wb (ob s ws) (fitX (ob s ws) i g t bt, ob s ws) w) := by
  have hb0 := stW_below i g w
  obtain ⟨x0, x1, _, _⟩ := two_cells (stW_r i g w)
  have HR := hideIt (stW_r i g w)
  have HS := hideIt (stW_s i g w)
  have H0 := hideIt h
  have HM := hideIt (h.below hb0)
  have HSd := hideIt hS
  have HB := hideIt hb0
  have HMr := hideIt (fun k (hk : k < 65536) w' (hb : Below (stW i g w).heap.size (stW i g w) w') => mayRetype_m (i := i) (t := t) (bt := bt) (k := k) (g := g) (HM.out.below hb) HSd.out h6 hbt hk)
  obtain ⟨X, hX⟩ : ∃ X, X = (fitX (ob s ws) i g t bt, ob s ws) := ⟨_, rfl⟩
  rw [← hX]
  have HX := hideIt hX
  clear h hb0 hX hS
  have HM1 := hideIt (HMr.out 1 (by omega) (stW i g w) (Below.refl _ _))
  rcases plM_rng (ob s ws) i g t bt with hp | hp5
  · have ht : 1 ≤ t ∧ t ≤ 7 := by
      have hz : szC t bt = 0 := by
        unfold plM at hp
        by_cases q : chkR (ob s ws) i g ≠ 0
        · rw [if_pos q] at hp; exact absurd hp q
        · rwa [if_neg q] at hp
      unfold szC at hz
      by_cases q : t = 0 ∨ 8 ≤ t
      · rw [if_pos q] at hz; exact absurd hz (by decide)
      · omega
    have HNN := hideIt (rmM_nn HSd.out ht.1 ht.2)
    have HX2 : Hid (X = (⟨0, [], [fiN (ob s ws) i t bt]⟩, ob s ws)) := by show X = _; rw [HX.out]; unfold fitX fiN; rw [if_neg (by rw [hp]; simp)]
    have HFr : Hid (0 ≤ fiN (ob s ws) i t bt ∧ fiN (ob s ws) i t bt ≤ 32) := by
      have := HNN.out
      unfold fiN
      constructor
      · split <;> omega
      · split <;> omega
    have HLt := hideIt (fun k (h1 : 1 ≤ k) (h2 : k ≤ 32) => fiN_lt (k := k) hp h1 h2)
    have h1c := mrM_ok (k := 1) hp
    have HOk := hideIt (fun k => mrM_ok (k := k) hp)
    clear hp HNN HX ht
    generalize fiN (ob s ws) i t bt = N at *
    generalize hm1 : mrM (ob s ws) i g t bt 1 = m1 at *
    clear hm1
    have e1 : (m1 == 1) = false := by rw [beq_eq_false_iff_ne]; omega
    have e2 : (m1 == 2) = false := by rw [beq_eq_false_iff_ne]; omega
    have e3 : (m1 == 3) = false := by rw [beq_eq_false_iff_ne]; omega
    have e4 : (m1 == 4) = false := by rw [beq_eq_false_iff_ne]; omega
    have e5 : (m1 == 5) = false := by rw [beq_eq_false_iff_ne]; omega
    clear h1c
    go_enter Tryz.func72, Tryz.ntmps72
    go_upto_region 1 with fail
    rw [show (w.alloc (.cells #[.int .u16 (i : Int), .int .u32 g] 32)).alloc (.cells #[.int .u8 0, .slice none 0 0, .slice none 0 0] 57) = stW i g w from rfl]
    generalize stW i g w = w0 at *
    go_wp2_with fail
    go_at_call 207
    refine HM1.out.mono ?_
    rintro e w1 ⟨rfl, hb1⟩
    have HB1 := hideIt hb1
    clear x0 x1 hb1 HM1
    go_wp2_with fail
    go_loopw [10, 11] (fun v10 v11 wr => ∃ k : Nat, k ≤ 32 ∧ v11 = .int .i64 ((k + 1 : Nat) : Int) ∧ v10 = .int .i64 (min (k : Int) N) ∧ Below w0.heap.size w0 wr) (fun _ j _ => 33 - (intOf j).toNat)
    case atStart => exact ⟨0, by omega, rfl, by have := HFr.out; rw [show min ((0 : Nat) : Int) N = 0 by omega], HB1.out⟩
    case round =>
      obtain ⟨k, hk, rfl, rfl, hbr⟩ := hrel
      have HBr := hideIt hbr
      have hr1 := (hbr.block _ (heap_lt HR.out)).trans HR.out
      obtain ⟨y0, y1, _, _⟩ := two_cells hr1
      have hfr := HFr.out
      by_cases hlt : k < 32
      · have hlt' : ((k + 1 : Nat) : Int) ≤ 32 := by omega
        have HC := hideIt (HMr.out (k + 1) (by omega) wr hbr)
        have hiff := HLt.out (k + 1) (by omega) (by omega)
        have hok := HOk.out (k + 1)
        clear hbr hr1
        generalize hmk : mrM (ob s ws) i g t bt (k + 1) = mk at *
        clear hmk
        by_cases hz : mk = 0
        · have HQ : Hid (min ((k + 1 : Nat) : Int) N = ((k + 1 : Nat) : Int)) := by have := hiff.1 hz; show min _ _ = _; omega
          subst hz
          clear hiff hok
          go_wp2_with (go_at_call 207; refine HC.out.mono ?_; rintro e w5 ⟨rfl, hb5⟩; have HB5 := hideIt (Below.thr HBr.out hb5); clear hb5)
          go_roundw
          case rel => exact ⟨k + 1, by omega, by go_num, by (rw [HQ.out]) <;> (first | rfl | go_num), HB5.out⟩
          case measure => simp [intOf]; omega
        · have HQ : Hid (min ((k + 1 : Nat) : Int) N = min (k : Int) N) := by have : ¬ ((k + 1 : Nat) : Int) ≤ N := fun z => hz (hiff.2 z); show min _ _ = min _ _; omega
          have hzb : (mk == 0) = false := by rw [beq_eq_false_iff_ne]; exact hz
          clear hiff hok hz
          generalize min (k : Int) N = bst at *
          go_wp2_with (go_at_call 207; refine HC.out.mono ?_; rintro e w5 ⟨rfl, hb5⟩; have HB5 := hideIt (Below.thr HBr.out hb5); clear hb5)
          go_roundw
          case rel => exact ⟨k + 1, by omega, by go_num, by (rw [HQ.out]) <;> (first | rfl | go_num), HB5.out⟩
          case measure => simp [intOf]; omega
      · have hk3 : k = 32 := by omega
        subst hk3
        have hmn : min ((32 : Nat) : Int) N = N := by omega
        rw [hmn]
        have huw : IntKind.u64.wrap N = N := u64_same (by omega) (by omega)
        have hs5 := (hbr.block _ (heap_lt HS.out)).trans HS.out
        have HS5 := hideIt hs5
        have HBr2 := hideIt (Below.thr HB.out hbr)
        clear hbr hr1 hmn y0 y1
        obtain ⟨r0, r1, r2, f0, f1, f2⟩ := three_cells ((heap_alloc_old wr (.cells #[.int .u64 N] 34) (heap_lt hs5)).trans hs5)
        clear hs5
        have HF : Hid (MsP B wb (ob s ws) X w (.returned (.agg #[.int .u8 0, .slice none 0 0, .slice (some ⟨wr.heap.size, 0, none⟩) 1 1])) ((((wr.alloc (.cells #[.int .u64 N] 34)).setCell ⟨w.heap.size + 1, 0, none⟩ (.int .u8 0)).setCell ⟨w.heap.size + 1, 1, none⟩ (.slice none 0 0)).setCell ⟨w.heap.size + 1, 2, none⟩ (.slice (some ⟨wr.heap.size, 0, none⟩) 1 1))) := by
          show MsP _ _ _ _ _ _ _
          rw [HX2.out]
          exact MsP.fin (X := ⟨0, [], [N]⟩) H0.out (Below.thr HBr2.out (alloc_below _)) rfl (IsR.nil _ _) (isU_new (l := [N]) (heap_new _ _) (by have := heap_lt HS5.out; omega)) (.int .u8 0) (.slice none 0 0) (.slice (some ⟨wr.heap.size, 0, none⟩) 1 1)
        have HZ := hideIt (three_set ((heap_alloc_old wr (.cells #[.int .u64 N] 34) (heap_lt HS5.out)).trans HS5.out) (.int .u8 0) (.slice none 0 0) (.slice (some ⟨wr.heap.size, 0, none⟩) 1 1))
        go_wp2_with fail
        refine bodyPost_ret (v := .agg #[.int .u8 0, (.slice none 0 0), (.slice (some ⟨wr.heap.size, 0, none⟩) 1 1)]) ?_ rfl HF.out
        exact results_cell_row (by exact Tryz.results72) _ _ (w.heap.size + 1) _ _ _ _ (by rfl) (by exact HZ.out) Tryz.underlying57 rfl (by kernel_rfl)
  · have HX2 : Hid (X = (bad (plM (ob s ws) i g t bt), ob s ws)) := by show X = _; rw [HX.out]; unfold fitX; rw [if_pos (by omega)]
    have hm1 : mrM (ob s ws) i g t bt 1 = plM (ob s ws) i g t bt := by unfold mrM; rw [if_pos (by omega)]
    rw [hm1] at HM1
    clear HX hm1
    generalize plM (ob s ws) i g t bt = c at *
    go_enter Tryz.func72, Tryz.ntmps72
    go_upto_region 1 with fail
    rw [show (w.alloc (.cells #[.int .u16 (i : Int), .int .u32 g] 32)).alloc (.cells #[.int .u8 0, .slice none 0 0, .slice none 0 0] 57) = stW i g w from rfl]
    generalize stW i g w = w0 at *
    go_wp2_with fail
    go_at_call 207
    refine HM1.out.mono ?_
    rintro e w1 ⟨rfl, hb1⟩
    have HB1 := hideIt (Below.thr HB.out hb1)
    have HS1 := hideIt ((hb1.block _ (heap_lt HS.out)).trans HS.out)
    clear x0 x1 hb1 HM1
    rcases hp5 with rfl | rfl | rfl | rfl | rfl
    · go_wp2_with (go_at_call 90; refine (fail_m _ _).mono ?_; rintro e w3 ⟨rfl, hb3⟩; have hs3 := (hb3.block _ (heap_lt HS1.out)).trans HS1.out; obtain ⟨q0, q1, q2, k0, k1, k2⟩ := three_cells hs3; have HZ := hideIt (three_set hs3 (.int .u8 1) (.slice none 0 0) (.slice none 0 0)); have HF := hideIt (MsP.bad H0.out ((((Below.thr HB1.out hb3).setCell (p := ⟨w.heap.size + 1, 0, none⟩) (Nat.le_succ _) (.int .u8 1)).setCell (p := ⟨w.heap.size + 1, 1, none⟩) (Nat.le_succ _) (.slice none 0 0)).setCell (p := ⟨w.heap.size + 1, 2, none⟩) (Nat.le_succ _) (.slice none 0 0)) HX2.out); clear hb3 hs3)
      refine bodyPost_ret (v := .agg #[.int .u8 1, (.slice none 0 0), (.slice none 0 0)]) ?_ rfl HF.out
      exact results_cell_row (by exact Tryz.results72) _ _ (w.heap.size + 1) _ _ _ _ (by rfl) (by exact HZ.out) Tryz.underlying57 rfl (by kernel_rfl)
    · go_wp2_with (go_at_call 90; refine (fail_m _ _).mono ?_; rintro e w3 ⟨rfl, hb3⟩; have hs3 := (hb3.block _ (heap_lt HS1.out)).trans HS1.out; obtain ⟨q0, q1, q2, k0, k1, k2⟩ := three_cells hs3; have HZ := hideIt (three_set hs3 (.int .u8 2) (.slice none 0 0) (.slice none 0 0)); have HF := hideIt (MsP.bad H0.out ((((Below.thr HB1.out hb3).setCell (p := ⟨w.heap.size + 1, 0, none⟩) (Nat.le_succ _) (.int .u8 2)).setCell (p := ⟨w.heap.size + 1, 1, none⟩) (Nat.le_succ _) (.slice none 0 0)).setCell (p := ⟨w.heap.size + 1, 2, none⟩) (Nat.le_succ _) (.slice none 0 0)) HX2.out); clear hb3 hs3)
      refine bodyPost_ret (v := .agg #[.int .u8 2, (.slice none 0 0), (.slice none 0 0)]) ?_ rfl HF.out
      exact results_cell_row (by exact Tryz.results72) _ _ (w.heap.size + 1) _ _ _ _ (by rfl) (by exact HZ.out) Tryz.underlying57 rfl (by kernel_rfl)
    · go_wp2_with (go_at_call 90; refine (fail_m _ _).mono ?_; rintro e w3 ⟨rfl, hb3⟩; have hs3 := (hb3.block _ (heap_lt HS1.out)).trans HS1.out; obtain ⟨q0, q1, q2, k0, k1, k2⟩ := three_cells hs3; have HZ := hideIt (three_set hs3 (.int .u8 3) (.slice none 0 0) (.slice none 0 0)); have HF := hideIt (MsP.bad H0.out ((((Below.thr HB1.out hb3).setCell (p := ⟨w.heap.size + 1, 0, none⟩) (Nat.le_succ _) (.int .u8 3)).setCell (p := ⟨w.heap.size + 1, 1, none⟩) (Nat.le_succ _) (.slice none 0 0)).setCell (p := ⟨w.heap.size + 1, 2, none⟩) (Nat.le_succ _) (.slice none 0 0)) HX2.out); clear hb3 hs3)
      refine bodyPost_ret (v := .agg #[.int .u8 3, (.slice none 0 0), (.slice none 0 0)]) ?_ rfl HF.out
      exact results_cell_row (by exact Tryz.results72) _ _ (w.heap.size + 1) _ _ _ _ (by rfl) (by exact HZ.out) Tryz.underlying57 rfl (by kernel_rfl)
    · go_wp2_with (go_at_call 90; refine (fail_m _ _).mono ?_; rintro e w3 ⟨rfl, hb3⟩; have hs3 := (hb3.block _ (heap_lt HS1.out)).trans HS1.out; obtain ⟨q0, q1, q2, k0, k1, k2⟩ := three_cells hs3; have HZ := hideIt (three_set hs3 (.int .u8 4) (.slice none 0 0) (.slice none 0 0)); have HF := hideIt (MsP.bad H0.out ((((Below.thr HB1.out hb3).setCell (p := ⟨w.heap.size + 1, 0, none⟩) (Nat.le_succ _) (.int .u8 4)).setCell (p := ⟨w.heap.size + 1, 1, none⟩) (Nat.le_succ _) (.slice none 0 0)).setCell (p := ⟨w.heap.size + 1, 2, none⟩) (Nat.le_succ _) (.slice none 0 0)) HX2.out); clear hb3 hs3)
      refine bodyPost_ret (v := .agg #[.int .u8 4, (.slice none 0 0), (.slice none 0 0)]) ?_ rfl HF.out
      exact results_cell_row (by exact Tryz.results72) _ _ (w.heap.size + 1) _ _ _ _ (by rfl) (by exact HZ.out) Tryz.underlying57 rfl (by kernel_rfl)
    · go_wp2_with (go_at_call 90; refine (fail_m _ _).mono ?_; rintro e w3 ⟨rfl, hb3⟩; have hs3 := (hb3.block _ (heap_lt HS1.out)).trans HS1.out; obtain ⟨q0, q1, q2, k0, k1, k2⟩ := three_cells hs3; have HZ := hideIt (three_set hs3 (.int .u8 5) (.slice none 0 0) (.slice none 0 0)); have HF := hideIt (MsP.bad H0.out ((((Below.thr HB1.out hb3).setCell (p := ⟨w.heap.size + 1, 0, none⟩) (Nat.le_succ _) (.int .u8 5)).setCell (p := ⟨w.heap.size + 1, 1, none⟩) (Nat.le_succ _) (.slice none 0 0)).setCell (p := ⟨w.heap.size + 1, 2, none⟩) (Nat.le_succ _) (.slice none 0 0)) HX2.out); clear hb3 hs3)
      refine bodyPost_ret (v := .agg #[.int .u8 5, (.slice none 0 0), (.slice none 0 0)]) ?_ rfl HF.out
      exact results_cell_row (by exact Tryz.results72) _ _ (w.heap.size + 1) _ _ _ _ (by rfl) (by exact HZ.out) Tryz.underlying57 rfl (by kernel_rfl)
end
end Go.Proofs.Qxb6500847aGreatDoor.Os
