/-
  The abstract model: what a step leaves; free.
-/
import Derived.Test.Qxb6500847aGreatDoorMdI
namespace Go.Proofs.Qxb6500847aGreatDoor.Os
open Go.RowKit FloorA
set_option maxRecDepth 100000
/-- What a step of the model leaves: X its answer and the state behind it. -/
def MsP (B : Nat) (wb : Nat → Nat) (M : Nat → En) (X : Rs × (Nat → En)) (w : World) (e : Ending) (w' : World) : Prop :=
  ∃ refs vals wb', e = .returned (.agg #[.int .u8 X.1.code, refs, vals]) ∧ IsR w.heap.size w' refs X.1.refs ∧ IsU w.heap.size w' vals X.1.vals ∧ Md w' B wb' X.2 ∧ Ext w.heap.size (Tm B wb M) w w' ∧ ∀ b, Tm B wb' X.2 b → Tm B wb M b ∨ w.heap.size ≤ b
section
variable {w w' : World} {B : Nat} {wb : Nat → Nat} {M : Nat → En} {i : Nat}
/-- A question. -/
theorem MsP.ask {X : Rs} {refs vals : Value} (h : Md w B wb M) (b : Below w.heap.size w w') (hr : IsR w.heap.size w' refs X.refs) (hv : IsU w.heap.size w' vals X.vals) : MsP B wb M (X, M) w (.returned (.agg #[.int .u8 X.code, refs, vals])) w' :=
  ⟨refs, vals, wb, rfl, hr, hv, h.below b, Ext.of_below b _, fun _ q => Or.inl q⟩
theorem MsP.bad {c : Int} {X : Rs × (Nat → En)} (h : Md w B wb M) (b : Below w.heap.size w w') (hX : X = (bad c, M)) : MsP B wb M X w (.returned (.agg #[.int .u8 c, .slice none 0 0, .slice none 0 0])) w' := by
  subst hX
  exact MsP.ask (X := Os.bad c) h b (IsR.nil _ _) (IsU.nil _ _)
/-- The two boxes of a step that takes a reference. -/
def stW (i : Nat) (g : Int) (w : World) : World := (w.alloc (.cells #[.int .u16 (i : Int), .int .u32 g] 32)).alloc (.cells #[.int .u8 0, .slice none 0 0, .slice none 0 0] 57)
theorem stW_below (i : Nat) (g : Int) (w : World) : Below w.heap.size w (stW i g w) := two_below (w := w) _ _
theorem stW_r (i : Nat) (g : Int) (w : World) : (stW i g w).heap[w.heap.size]? = some (.cells #[.int .u16 (i : Int), .int .u32 g] 32 (0, 0)) := (heap_alloc_old _ _ (by simp)).trans (heap_new _ _)
theorem stW_s (i : Nat) (g : Int) (w : World) : (stW i g w).heap[w.heap.size + 1]? = some (.cells #[.int .u8 0, .slice none 0 0, .slice none 0 0] 57 (0, 0)) := new_at _ _ (Deep.nblk_alloc _ _)
theorem updM_tm {e : En} (he : e.wds = []) {b : Nat} (h : Tm B wb (updM M i e) b) : Tm B wb M b := by
  rcases h with h | ⟨j, hj, hw, rfl⟩
  · exact Or.inl h
  · refine Or.inr ⟨j, hj, ?_, rfl⟩
    unfold updM at hw
    by_cases q : j = i
    · rw [if_pos q] at hw; exact absurd he hw
    · rw [if_neg q] at hw; exact hw
set_option maxHeartbeats 4000000 in
theorem free_m (h : Md w B wb M) (hM : Mk M) (hK : ∀ p, p < 320 → ∃ l, IsK M p l) (hN : ∀ p, p < 320 → (M p).typ ≠ 1 → kdsM M p = []) (i : Nat) (h6 : i < 65536) (g : Int) :
    Calls Tryz.prog 73 #[.pointer (some ⟨B, 0, none⟩), .agg #[.int .u16 (i : Int), .int .u32 g]] w (MsP B wb M (cX (freX M i g)) w) := by
  have hb0 := stW_below i g w
  obtain ⟨x0, x1, _, _⟩ := two_cells (stW_r i g w)
  have HR := hideIt (stW_r i g w)
  have HS := hideIt (stW_s i g w)
  have H0 := hideIt h
  have HM := hideIt (h.below hb0)
  have HMk := hideIt hM
  have HB := hideIt hb0
  have HC := hideIt (check_m HM.out i h6 g)
  obtain ⟨X, hX⟩ : ∃ X, X = cX (freX M i g) := ⟨_, rfl⟩
  rw [← hX]
  have HX := hideIt hX
  clear h hb0 hM hX
  by_cases hc : chk M i g = 0
  · obtain ⟨hi, hg0, ht, hge⟩ := chk_lt hc
    have hgl := HMk.out.lg i hi ht
    have HCh := hideIt (fun w1 (hb : Below (stW i g w).heap.size (stW i g w) w1) => children_m (HM.out.below hb) HMk.out hi (hK i hi))
    have hX2 : X = if kdsM M i ≠ [] then (bad 12, M) else (⟨0, [], []⟩, updM M i (enF ((M i).gen + 1))) := by
      rw [HX.out]
      unfold freX cX
      rw [if_neg (by rw [hc]; simp)]
      by_cases q : kdsM M i ≠ []
      · have q1 : (M i).typ = 1 := Classical.byContradiction (fun z => q (hN i hi z))
        rw [if_pos ⟨q1, q⟩, if_pos q]
        rfl
      · rw [if_neg (fun z => q z.2), if_neg q]
    have HX2 := hideIt hX2
    have HLn := hideIt (kds_len M i)
    rw [hc] at HC
    have i6 : wrap64 (i : Int) = (i : Int) := by unfold wrap64; omega
    clear hX2 hc hK hN HX hge hg0 ht
    go_enter Tryz.func73, Tryz.ntmps73
    go_upto_region 1 with fail
    rw [show (w.alloc (.cells #[.int .u16 (i : Int), .int .u32 g] 32)).alloc (.cells #[.int .u8 0, .slice none 0 0, .slice none 0 0] 57) = stW i g w from rfl]
    generalize stW i g w = w0 at *
    go_wp2_with fail
    go_at_call 211
    refine HC.out.mono ?_
    rintro e w1 ⟨rfl, hb1⟩
    obtain ⟨y0, y1, _, _⟩ := two_cells ((hb1.block _ (heap_lt HR.out)).trans HR.out)
    have HC2 := hideIt (HCh.out w1 hb1)
    have HB1 := hideIt (Below.thr HB.out hb1)
    have HM1 := hideIt (HM.out.below hb1)
    have HS1 := hideIt ((hb1.block _ (heap_lt HS.out)).trans HS.out)
    have HR1 := hideIt ((hb1.block _ (heap_lt HR.out)).trans HR.out)
    clear hb1 x0 x1 HC HCh HM HS HR HB
    go_wp2_with fail
    go_at_call 212
    refine HC2.out.mono ?_
    rintro e w2 ⟨v, rfl, hown, hb2⟩
    obtain ⟨a2, c2, rfl⟩ := hown.form
    obtain ⟨t0, t1, _, _⟩ := two_cells ((hb2.block _ (heap_lt HR1.out)).trans HR1.out)
    have hs2 := (hb2.block _ (heap_lt HS1.out)).trans HS1.out
    have HS2 := hideIt hs2
    have HM2 := hideIt (HM1.out.below hb2)
    have HB2 := hideIt (Below.thr HB1.out hb2)
    clear hown hb2 y0 y1 HC2 HS1 HR1 HM1 HB1
    have hln := HLn.out
    by_cases hk : kdsM M i = []
    · have HD := hideIt (drop_m HM2.out HMk.out hi hgl)
      have HX3 : Hid (X = (⟨0, [], []⟩, updM M i (enF ((M i).gen + 1)))) := by show X = _; rw [HX2.out, if_neg (fun z => z hk)]
      have hl0 : (kdsM M i).length = 0 := by rw [hk]; rfl
      clear HX2 hk
      rw [hl0]
      clear hl0 hln HLn
      obtain ⟨r0, r1, r2, f0, f1, f2⟩ := three_cells hs2
      clear hs2
      go_wp2_with fail
      go_at_call 213
      refine HD.out.mono ?_
      rintro e w3 ⟨rfl, hm3, he3⟩
      have hne : w.heap.size + 1 ≠ B := by have := H0.out.lt; omega
      have hs3 := (he3.block (w.heap.size + 1) (heap_lt HS2.out) hne).trans HS2.out
      obtain ⟨q0, q1, q2, k0, k1, k2⟩ := three_cells hs3
      have HZ := hideIt (three_set hs3 (.int .u8 0) (.slice none 0 0) (.slice none 0 0))
      have HF : Hid (MsP B wb M X w (.returned (.agg #[.int .u8 0, .slice none 0 0, .slice none 0 0])) (((w3.setCell ⟨w.heap.size + 1, 0, none⟩ (.int .u8 0)).setCell ⟨w.heap.size + 1, 1, none⟩ (.slice none 0 0)).setCell ⟨w.heap.size + 1, 2, none⟩ (.slice none 0 0))) := by
        show MsP _ _ _ _ _ _ _
        rw [HX3.out]
        have e1 : Ext w.heap.size (Tm B wb M) w w3 := (Ext.of_below HB2.out _).trans he3 HB2.out.size (fun b _ q => Or.inl q)
        have e2 := ((e1.setCell (p := ⟨w.heap.size + 1, 0, none⟩) (Or.inl (Nat.le_succ _)) (.int .u8 0)).setCell (p := ⟨w.heap.size + 1, 1, none⟩) (Or.inl (Nat.le_succ _)) (.slice none 0 0)).setCell (p := ⟨w.heap.size + 1, 2, none⟩) (Or.inl (Nat.le_succ _)) (.slice none 0 0)
        have e3 : Ext w3.heap.size (fun b => b = w.heap.size + 1) w3 (((w3.setCell ⟨w.heap.size + 1, 0, none⟩ (.int .u8 0)).setCell ⟨w.heap.size + 1, 1, none⟩ (.slice none 0 0)).setCell ⟨w.heap.size + 1, 2, none⟩ (.slice none 0 0)) := (((Ext.refl w3.heap.size (fun b => b = w.heap.size + 1) w3).setCell (p := ⟨w.heap.size + 1, 0, none⟩) (Or.inr rfl) _).setCell (p := ⟨w.heap.size + 1, 1, none⟩) (Or.inr rfl) _).setCell (p := ⟨w.heap.size + 1, 2, none⟩) (Or.inr rfl) _
        refine ⟨_, _, wb, rfl, IsR.nil _ _, IsU.nil _ _, hm3.ext e3 (fun b hb q => ?_), e2, fun b hb => Or.inl (updM_tm rfl hb)⟩
        have := H0.out.tlt (updM_tm rfl hb)
        omega
      clear hm3 he3 hs3 t0 t1 r0 r1 r2 f0 f1 f2
      go_wp2
      refine bodyPost_ret (v := .agg #[.int .u8 0, .slice none 0 0, .slice none 0 0]) ?_ rfl HF.out
      exact results_cell_row (by exact Tryz.results73) _ _ (w.heap.size + 1) _ _ _ _ (by rfl) (by exact HZ.out) Tryz.underlying57 rfl (by kernel_rfl)
    · have hl1 : ((kdsM M i).length : Int) > 0 := by have := List.length_pos_iff.2 hk; omega
      have HX3 : Hid (X = (bad 12, M)) := by show X = _; rw [HX2.out, if_pos hk]
      clear hk HX2 hs2 t0 t1
      generalize (kdsM M i).length = kl at *
      go_wp2_with (go_at_call 90; refine (fail_m _ _).mono ?_; rintro e w3 ⟨rfl, hb3⟩; have hs3 := (hb3.block _ (heap_lt HS2.out)).trans HS2.out; obtain ⟨q0, q1, q2, k0, k1, k2⟩ := three_cells hs3; have HZ := hideIt (three_set hs3 (.int .u8 12) (.slice none 0 0) (.slice none 0 0)); have HF := hideIt (MsP.bad H0.out ((((Below.thr HB2.out hb3).setCell (p := ⟨w.heap.size + 1, 0, none⟩) (Nat.le_succ _) (.int .u8 12)).setCell (p := ⟨w.heap.size + 1, 1, none⟩) (Nat.le_succ _) (.slice none 0 0)).setCell (p := ⟨w.heap.size + 1, 2, none⟩) (Nat.le_succ _) (.slice none 0 0)) HX3.out); clear hb3 hs3)
      refine bodyPost_ret (v := .agg #[.int .u8 12, .slice none 0 0, .slice none 0 0]) ?_ rfl HF.out
      exact results_cell_row (by exact Tryz.results73) _ _ (w.heap.size + 1) _ _ _ _ (by rfl) (by exact HZ.out) Tryz.underlying57 rfl (by kernel_rfl)
  · have hX2 : X = (bad (chk M i g), M) := by rw [HX.out]; unfold freX cX; rw [if_pos hc]; rfl
    have HX2 := hideIt hX2
    have hcb : (chk M i g != 0) = true := by rw [bne_iff_ne]; exact hc
    clear hX2 hc hK hN HX
    generalize chk M i g = c at *
    go_enter Tryz.func73, Tryz.ntmps73
    go_upto_region 1 with fail
    rw [show (w.alloc (.cells #[.int .u16 (i : Int), .int .u32 g] 32)).alloc (.cells #[.int .u8 0, .slice none 0 0, .slice none 0 0] 57) = stW i g w from rfl]
    generalize stW i g w = w0 at *
    go_wp2_with fail
    go_at_call 211
    refine HC.out.mono ?_
    rintro e w1 ⟨rfl, hb1⟩
    have HB1 := hideIt (Below.thr HB.out hb1)
    have HS1 := hideIt ((hb1.block _ (heap_lt HS.out)).trans HS.out)
    clear hb1 x0 x1 HC HM HS HR HB
    go_wp2_with (go_at_call 90; refine (fail_m _ _).mono ?_; rintro e w3 ⟨rfl, hb3⟩; have hs3 := (hb3.block _ (heap_lt HS1.out)).trans HS1.out; obtain ⟨q0, q1, q2, k0, k1, k2⟩ := three_cells hs3; have HZ := hideIt (three_set hs3 (.int .u8 c) (.slice none 0 0) (.slice none 0 0)); have HF := hideIt (MsP.bad H0.out ((((Below.thr HB1.out hb3).setCell (p := ⟨w.heap.size + 1, 0, none⟩) (Nat.le_succ _) (.int .u8 c)).setCell (p := ⟨w.heap.size + 1, 1, none⟩) (Nat.le_succ _) (.slice none 0 0)).setCell (p := ⟨w.heap.size + 1, 2, none⟩) (Nat.le_succ _) (.slice none 0 0)) HX2.out); clear hb3 hs3)
    refine bodyPost_ret (v := .agg #[.int .u8 c, .slice none 0 0, .slice none 0 0]) ?_ rfl HF.out
    exact results_cell_row (by exact Tryz.results73) _ _ (w.heap.size + 1) _ _ _ _ (by rfl) (by exact HZ.out) Tryz.underlying57 rfl (by kernel_rfl)
end
end Go.Proofs.Qxb6500847aGreatDoor.Os
