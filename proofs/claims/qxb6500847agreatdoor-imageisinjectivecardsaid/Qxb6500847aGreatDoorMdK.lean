/-
  The abstract model: load.
-/
import Derived.Test.Qxb6500847aGreatDoorMdJ
namespace Go.Proofs.Qxb6500847aGreatDoor.Os
open Go.RowKit FloorA
set_option maxRecDepth 100000
theorem Mk.wlen {M : Nat → En} (h : Mk M) (i : Nat) (hi : i < 320) : (M i).wds.length ≤ 112 := by
  rw [h.wln i hi]
  split
  · omega
  · exact nF_le _
theorem WdV.form {w : World} {g : Nat} {l : List Int} {v : Value} (h : WdV w g l v) : ∃ ad c, v = .slice ad l.length c := by
  rcases h with ⟨e, ad, c, e2⟩ | ⟨_, c, e, _⟩
  · exact ⟨ad, c, by rw [e2, e]; rfl⟩
  · exact ⟨_, c, e⟩
theorem WdV.at {w : World} {g : Nat} {l : List Int} {v : Value} (h : WdV w g l v) {f : Nat} {x : Int} (hx : l[f]? = some x) : ∃ c, v = .slice (some ⟨g, 0, none⟩) l.length c ∧ w.cell? ⟨g, f, none⟩ = some (.int .u64 x) ∧ g < w.heap.size := by
  rcases h with ⟨e, _⟩ | ⟨_, c, e, _, _, r, _⟩
  · rw [e] at hx; simp at hx
  · have := r f (.int .u64 x) (by rw [List.getElem?_map, hx]; rfl)
    rw [Nat.zero_add] at this
    exact ⟨c, e, this, cell_lt this⟩
theorem MsP.drew {w w' : World} {B : Nat} {wb : Nat → Nat} {M : Nat → En} {X : Rs × (Nat → En)} {e : Ending} (h : MsP B wb M X w e w') : MsP B wb M X w e w'.drew := by
  obtain ⟨r, v, wb', e1, e2, e3, e4, e5, e6⟩ := h
  exact ⟨r, v, wb', e1, Sq.below e2 (below_d _), Sq.below e3 (below_d _), e4.below (below_d _), e5.andThen (below_d _) e5.size, e6⟩
theorem MsP.fin {w w3 : World} {B : Nat} {wb : Nat → Nat} {M : Nat → En} {X : Rs} {r v : Value} (h : Md w B wb M) (b : Below w.heap.size w w3) (hc : X.code = 0) (hr : IsR (w.heap.size + 2) w3 r X.refs) (hv : IsU (w.heap.size + 2) w3 v X.vals) (x y z : Value) :
    MsP B wb M (X, M) w (.returned (.agg #[.int .u8 0, r, v])) (((w3.setCell ⟨w.heap.size + 1, 0, none⟩ x).setCell ⟨w.heap.size + 1, 1, none⟩ y).setCell ⟨w.heap.size + 1, 2, none⟩ z) := by
  have b3 := ((b.setCell (p := ⟨w.heap.size + 1, 0, none⟩) (Nat.le_succ _) x).setCell (p := ⟨w.heap.size + 1, 1, none⟩) (Nat.le_succ _) y).setCell (p := ⟨w.heap.size + 1, 2, none⟩) (Nat.le_succ _) z
  rw [← hc]
  exact MsP.ask h b3 (Sq.mono (Sq.fin hr (Below.refl _ _) (Nat.lt_succ_self _) x y z) (by omega)) (Sq.mono (Sq.fin hv (Below.refl _ _) (Nat.lt_succ_self _) x y z) (by omega))
section
variable {w w' : World} {B : Nat} {wb : Nat → Nat} {M : Nat → En}
set_option maxHeartbeats 4000000 in
theorem load_m (h : Md w B wb M) (hM : Mk M) (i : Nat) (h6 : i < 65536) (g : Int) {f : Nat} :
    Calls Tryz.prog 82 #[.pointer (some ⟨B, 0, none⟩), .agg #[.int .u16 (i : Int), .int .u32 g], .int .i64 (f : Int)] w (MsP B wb M (loaX M i g f, M) w) := by
  have hb0 := stW_below i g w
  obtain ⟨x0, x1, _, _⟩ := two_cells (stW_r i g w)
  have HR := hideIt (stW_r i g w)
  have HS := hideIt (stW_s i g w)
  have H0 := hideIt h
  have HM := hideIt (h.below hb0)
  have HMk := hideIt hM
  have HB := hideIt hb0
  have HC := hideIt (check_m HM.out i h6 g)
  obtain ⟨X, hX⟩ : ∃ X, X = (loaX M i g f, M) := ⟨_, rfl⟩
  rw [← hX]
  have HX := hideIt hX
  clear h hb0 hM hX
  by_cases hc : chk M i g = 0
  · obtain ⟨hi, _, _, _⟩ := chk_lt hc
    have i3 : (i : Int) < 320 := by omega
    rw [hc] at HC
    have HCK : Hid (chk M i g = 0) := hc
    have i6 : wrap64 (i : Int) = (i : Int) := by unfold wrap64; omega
    clear hc
    go_enter Tryz.func82, Tryz.ntmps82
    go_upto_region 1 with fail
    rw [show (w.alloc (.cells #[.int .u16 (i : Int), .int .u32 g] 32)).alloc (.cells #[.int .u8 0, .slice none 0 0, .slice none 0 0] 57) = stW i g w from rfl]
    generalize stW i g w = w0 at *
    go_wp2_with fail
    go_at_call 211
    refine HC.out.mono ?_
    rintro e w1 ⟨rfl, hb1⟩
    have hr1 := (hb1.block _ (heap_lt HR.out)).trans HR.out
    obtain ⟨y0, y1, _, _⟩ := two_cells hr1
    have HB1 := hideIt (Below.thr HB.out hb1)
    have HM1 := hideIt (HM.out.below hb1)
    have HS1 := hideIt ((hb1.block _ (heap_lt HS.out)).trans HS.out)
    have HR1 := hideIt hr1
    clear hb1 hr1 x0 x1 HC HM HS HR HB
    obtain ⟨v, hv, hd⟩ := HM1.out.wrd i hi
    have hwl : (M i).wds.length ≤ 112 := HMk.out.wlen i hi
    by_cases hfl : (M i).wds.length ≤ f
    · have HX3 : Hid (X = (bad 13, M)) := by show X = _; rw [HX.out]; unfold loaX; rw [if_neg (by rw [HCK.out]; simp), if_pos hfl]
      obtain ⟨ad, c9, rfl⟩ := hd.form
      have hfl' : (f : Int) ≥ ((M i).wds.length : Int) := by omega
      clear hd HX
      generalize (M i).wds.length = wl at *
      go_wp2_with fail
      go_quiet (fail)
      have HB2 := hideIt (Below.thr HB1.out (belowN w1 nq))
      have HS2 : Hid ((w1.drewN nq).heap[w.heap.size + 1]? = some (.cells #[.int .u8 0, .slice none 0 0, .slice none 0 0] 57 (0, 0))) := HS1.out
      clear HB1 HS1 y0 y1 hv
      generalize w1.drewN nq = w2 at *
      go_wp2_with (go_at_call 90; refine (fail_m _ _).mono ?_; rintro e w3 ⟨rfl, hb3⟩; have hs3 := (hb3.block _ (heap_lt HS2.out)).trans HS2.out; obtain ⟨q0, q1, q2, k0, k1, k2⟩ := three_cells hs3; have HZ := hideIt (three_set hs3 (.int .u8 13) (.slice none 0 0) (.slice none 0 0)); have HF := hideIt (MsP.bad H0.out ((((Below.thr HB2.out hb3).setCell (p := ⟨w.heap.size + 1, 0, none⟩) (Nat.le_succ _) (.int .u8 13)).setCell (p := ⟨w.heap.size + 1, 1, none⟩) (Nat.le_succ _) (.slice none 0 0)).setCell (p := ⟨w.heap.size + 1, 2, none⟩) (Nat.le_succ _) (.slice none 0 0)) HX3.out); clear hb3 hs3)
      refine bodyPost_ret (v := .agg #[.int .u8 13, (.slice none 0 0), (.slice none 0 0)]) ?_ rfl HF.out
      exact results_cell_row (by exact Tryz.results82) _ _ (w.heap.size + 1) _ _ _ _ (by rfl) (by exact HZ.out) Tryz.underlying57 rfl (by kernel_rfl)
    · obtain ⟨x, hx⟩ : ∃ x, (M i).wds[f]? = some x := ⟨_, List.getElem?_eq_getElem (by omega)⟩
      have HX3 : Hid (X = (⟨0, [], [x]⟩, M)) := by show X = _; rw [HX.out]; unfold loaX; rw [if_neg (by rw [HCK.out]; simp), if_neg hfl, List.getD_eq_getElem?_getD, hx]; rfl
      obtain ⟨c9, rfl, hcx, _⟩ := hd.at hx
      have hfl' : ¬ (f : Int) ≥ ((M i).wds.length : Int) := by omega
      have hfl2 : (f : Int) < ((M i).wds.length : Int) := by omega
      clear hd HX hx
      generalize (M i).wds.length = wl at *
      go_wp2_with fail
      go_quiet (fail)
      have HB2 := hideIt (Below.thr HB1.out (belowN w1 nq))
      have hs2 : (w1.drewN nq).heap[w.heap.size + 1]? = some (.cells #[.int .u8 0, .slice none 0 0, .slice none 0 0] 57 (0, 0)) := HS1.out
      have yy0 := (show (w1.drewN nq).cell? ⟨w.heap.size, 0, none⟩ = _ from y0)
      have hv2 := (show (w1.drewN nq).cell? ⟨B, i * 6 + 5, none⟩ = _ from hv)
      have hcx2 := (show (w1.drewN nq).cell? ⟨wb i, f, none⟩ = _ from hcx)
      clear HB1 HS1 HR1 HM1 y0 y1 hv hcx
      generalize w1.drewN nq = w2 at *
      have HS2 := hideIt hs2
      obtain ⟨r0, r1, r2, f0, f1, f2⟩ := three_cells ((heap_alloc_old w2 (.cells #[.int .u64 x] 34) (heap_lt hs2)).trans hs2)
      clear hs2
      go_wp2_with fail
      go_region
      all_goals
        have HF : Hid (MsP B wb M X w (.returned (.agg #[.int .u8 0, (.slice none 0 0), (.slice (some ⟨w2.heap.size, 0, none⟩) 1 1)])) ((((w2.alloc (.cells #[.int .u64 x] 34)).setCell ⟨w.heap.size + 1, 0, none⟩ (.int .u8 0)).setCell ⟨w.heap.size + 1, 1, none⟩ (.slice none 0 0)).setCell ⟨w.heap.size + 1, 2, none⟩ (.slice (some ⟨w2.heap.size, 0, none⟩) 1 1)).drew) := by
          show MsP _ _ _ _ _ _ _
          rw [HX3.out]
          exact (MsP.fin H0.out (Below.thr HB2.out (alloc_below _)) rfl (IsR.nil _ _) (isU_new (l := [x]) (heap_new _ _) (by have := heap_lt HS2.out; omega)) (.int .u8 0) (.slice none 0 0) (.slice (some ⟨w2.heap.size, 0, none⟩) 1 1)).drew
        have HZ : Hid (((((w2.alloc (.cells #[.int .u64 x] 34)).setCell ⟨w.heap.size + 1, 0, none⟩ (.int .u8 0)).setCell ⟨w.heap.size + 1, 1, none⟩ (.slice none 0 0)).setCell ⟨w.heap.size + 1, 2, none⟩ (.slice (some ⟨w2.heap.size, 0, none⟩) 1 1)).drew.heap[w.heap.size + 1]? = some (.cells #[.int .u8 0, (.slice none 0 0), (.slice (some ⟨w2.heap.size, 0, none⟩) 1 1)] 57 (0, 0))) := three_set ((heap_alloc_old w2 (.cells #[.int .u64 x] 34) (heap_lt HS2.out)).trans HS2.out) (.int .u8 0) (.slice none 0 0) (.slice (some ⟨w2.heap.size, 0, none⟩) 1 1)
        go_wp2_with fail
        refine bodyPost_ret (v := .agg #[.int .u8 0, (.slice none 0 0), (.slice (some ⟨w2.heap.size, 0, none⟩) 1 1)]) ?_ rfl HF.out
        exact results_cell_row (by exact Tryz.results82) _ _ (w.heap.size + 1) _ _ _ _ (by rfl) (by exact HZ.out) Tryz.underlying57 rfl (by kernel_rfl)
  · have hX2 : X = (bad (chk M i g), M) := by rw [HX.out]; unfold loaX; rw [if_pos hc]
    have HX2 := hideIt hX2
    have hcb : (chk M i g != 0) = true := by rw [bne_iff_ne]; exact hc
    clear hX2 hc HX
    generalize chk M i g = c at *
    go_enter Tryz.func82, Tryz.ntmps82
    go_upto_region 1 with fail
    rw [show (w.alloc (.cells #[.int .u16 (i : Int), .int .u32 g] 32)).alloc (.cells #[.int .u8 0, .slice none 0 0, .slice none 0 0] 57) = stW i g w from rfl]
    generalize stW i g w = w0 at *
    go_wp2_with fail
    go_at_call 211
    refine HC.out.mono ?_
    rintro e w1 ⟨rfl, hb1⟩
    have HB1 := hideIt (Below.thr HB.out hb1)
    have HS1 := hideIt ((hb1.block _ (heap_lt HS.out)).trans HS.out)
    clear hb1 x0 x1 HC HM HS HR HB
    go_wp2_with (go_at_call 90; refine (fail_m _ _).mono ?_; rintro e w3 ⟨rfl, hb3⟩; have hs3 := (hb3.block _ (heap_lt HS1.out)).trans HS1.out; obtain ⟨q0, q1, q2, k0, k1, k2⟩ := three_cells hs3; have HZ := hideIt (three_set hs3 (.int .u8 c) (.slice none 0 0) (.slice none 0 0)); have HF := hideIt (MsP.bad H0.out ((((Below.thr HB1.out hb3).setCell (p := ⟨w.heap.size + 1, 0, none⟩) (Nat.le_succ _) (.int .u8 c)).setCell (p := ⟨w.heap.size + 1, 1, none⟩) (Nat.le_succ _) (.slice none 0 0)).setCell (p := ⟨w.heap.size + 1, 2, none⟩) (Nat.le_succ _) (.slice none 0 0)) HX2.out); clear hb3 hs3)
    refine bodyPost_ret (v := .agg #[.int .u8 c, (.slice none 0 0), (.slice none 0 0)]) ?_ rfl HF.out
    exact results_cell_row (by exact Tryz.results82) _ _ (w.heap.size + 1) _ _ _ _ (by rfl) (by exact HZ.out) Tryz.underlying57 rfl (by kernel_rfl)
end
end Go.Proofs.Qxb6500847aGreatDoor.Os
