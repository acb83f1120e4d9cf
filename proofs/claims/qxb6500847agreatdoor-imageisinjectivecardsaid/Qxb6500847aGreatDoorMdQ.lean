/-
  The abstract model: owners.
-/
import Derived.Test.Qxb6500847aGreatDoorMdJ
import Derived.Test.Qxb6500847aGreatDoorMdO
import Derived.Test.Qxb6500847aGreatDoorMdN
namespace Go.Proofs.Qxb6500847aGreatDoor.Os
open Go.RowKit FloorA
set_option maxRecDepth 100000
section
variable {w w' : World} {B : Nat} {wb : Nat → Nat} {M : Nat → En}
set_option maxHeartbeats 4000000 in
theorem owners_m (h : Md w B wb M) (hM : Mk M) (hUp : ∀ j, j < 320 → (M j).typ ≠ 0 → ∃ l, Up M (M j).par l) (i : Nat) (h6 : i < 65536) (g : Int) :
    Calls Tryz.prog 88 #[.pointer (some ⟨B, 0, none⟩), .agg #[.int .u16 (i : Int), .int .u32 g]] w (MsP B wb M (ownX M i g, M) w) := by
  have hb0 := stW_below i g w
  obtain ⟨x0, x1, _, _⟩ := two_cells (stW_r i g w)
  have HR := hideIt (stW_r i g w)
  have HS := hideIt (stW_s i g w)
  have H0 := hideIt h
  have HM := hideIt (h.below hb0)
  have HMk := hideIt hM
  have HB := hideIt hb0
  have HC := hideIt (check_m HM.out i h6 g)
  obtain ⟨X, hX⟩ : ∃ X, X = (ownX M i g, M) := ⟨_, rfl⟩
  rw [← hX]
  have HX := hideIt hX
  clear h hb0 hM hX
  by_cases hc : chk M i g = 0
  · obtain ⟨hi, _, htn, _⟩ := chk_lt hc
    have i3 : (i : Int) < 320 := by omega
    obtain ⟨i2, hi2, hz2, hs2, hb2⟩ := info_parts inf32m
    obtain ⟨l0, hU0⟩ := hUp i hi htn
    rw [hc] at HC
    have HCK : Hid (chk M i g = 0) := hc
    have i6 : wrap64 (i : Int) = (i : Int) := by unfold wrap64; omega
    clear hc
    go_enter Tryz.func88, Tryz.ntmps88
    go_upto_region 1 with fail
    rw [show (w.alloc (.cells #[.int .u16 (i : Int), .int .u32 g] 32)).alloc (.cells #[.int .u8 0, .slice none 0 0, .slice none 0 0] 57) = stW i g w from rfl]
    generalize stW i g w = w0 at *
    go_wp2_with fail
    go_at_call 211
    refine HC.out.mono ?_
    rintro e w1 ⟨rfl, hb1⟩
    have hr1 := (hb1.block _ (heap_lt HR.out)).trans HR.out
    obtain ⟨y0, y1, _, _⟩ := two_cells hr1
    have HB1 := hideIt (Below.thr HB.out hb1)
    have HM1 := hideIt (HM.out.below hb1)
    have HS1 := hideIt ((hb1.block _ (heap_lt HS.out)).trans HS.out)
    have HR1 := hideIt hr1
    clear hb1 hr1 x0 x1 HC HM HS HR HB
    have z4 := HM1.out.par hi
    have HX3 : Hid (X = (⟨0, l0.map (rfM M), []⟩, M)) := by show X = _; rw [HX.out]; unfold ownX; rw [if_neg (by rw [HCK.out]; simp), anc_eq hU0]
    have HU0 := hideIt hU0
    have HLn := hideIt (Nat.le_trans (Nat.le_of_eq (congrArg List.length (anc_eq hU0).symm)) (anc_len M i))
    clear hUp HX hU0 htn
    generalize hx0 : (M i).par = x0 at *
    clear hx0
    go_wp2_with fail
    go_quiet (fail)
    have HB2 := hideIt (Below.thr HB1.out (belowN w1 nq))
    have HM2 := hideIt (HM1.out.below (belowN w1 nq))
    have HS2 : Hid ((w1.drewN nq).heap[w.heap.size + 1]? = some (.cells #[.int .u8 0, .slice none 0 0, .slice none 0 0] 57 (0, 0))) := HS1.out
    clear z4 y0 y1 HM1 HB1 HS1 HR1
    generalize w1.drewN nq = w2 at *
    go_wp2_with fail
    go_loopw [6, 7] (fun v6 v7 wr => ∃ (x : Int) (pre l : List Nat), v7 = .int .i64 (pz x) ∧ Up M x l ∧ l0 = pre ++ l ∧ ROwn w2.heap.size wr v6 (pre.map (rfM M)) ∧ Below w2.heap.size w2 wr) (fun _ z _ => (ancZ M (intOf z)).length)
    case atStart => exact ⟨x0, [], l0, rfl, HU0.out, rfl, ROwn.nil _ _, Below.refl _ _⟩
    case round =>
      obtain ⟨x, pre, l, rfl, hu, hpl, hrow, hbr⟩ := hrel
      match l, hu, hpl with
      | [], hu, hpl =>
        have e : x = 65535 := hu
        have hz : pz x = -1 := by rw [e]; rfl
        rw [List.append_nil] at hpl
        subst hpl
        rw [hz]
        have HRo := hideIt hrow
        have HBw := hideIt hbr
        have hs5 := (hbr.block _ (heap_lt HS2.out)).trans HS2.out
        obtain ⟨rz, rc, hrz⟩ : ∃ a c, u6 = .slice a (l0.map (rfM M)).length c := by
          rcases hrow.2 with ⟨e, e2⟩ | ⟨g, c, cur, e1, _⟩
          · exact ⟨none, 0, by rw [e, e2]⟩
          · exact ⟨_, c, e1⟩
        subst hrz
        obtain ⟨r0, r1, r2, f0, f1, f2⟩ := three_cells hs5
        have HZ := hideIt (three_set hs5 (.int .u8 0) (.slice rz (l0.map (rfM M)).length rc) (.slice none 0 0))
        have HF : Hid (MsP B wb M X w (.returned (.agg #[.int .u8 0, .slice rz (l0.map (rfM M)).length rc, .slice none 0 0])) (((wr.setCell ⟨w.heap.size + 1, 0, none⟩ (.int .u8 0)).setCell ⟨w.heap.size + 1, 1, none⟩ (.slice rz (l0.map (rfM M)).length rc)).setCell ⟨w.heap.size + 1, 2, none⟩ (.slice none 0 0))) := by
          show MsP _ _ _ _ _ _ _
          rw [HX3.out]
          exact MsP.fin (X := ⟨0, l0.map (rfM M), []⟩) H0.out (Below.thr HB2.out HBw.out) rfl (HRo.out.isr (by have := heap_lt HS2.out; omega)) (IsU.nil _ _) (.int .u8 0) (.slice rz (l0.map (rfM M)).length rc) (.slice none 0 0)
        clear hrow hbr hs5 hu e hz
        generalize (l0.map (rfM M)).length = rn at *
        go_wp2_with fail
        refine bodyPost_ret (v := .agg #[.int .u8 0, (.slice rz rn rc), (.slice none 0 0)]) ?_ rfl HF.out
        exact results_cell_row (by exact Tryz.results88) _ _ (w.heap.size + 1) _ _ _ _ (by rfl) (by exact HZ.out) Tryz.underlying57 rfl (by kernel_rfl)
      | u :: r, hu, hpl =>
        have e := hu.1
        have p3 := hu.2.1
        have p4 : (u : Int) < 320 := by omega
        have hz : pz x = (u : Int) := by unfold pz; rw [if_neg (by omega), e]
        have HAZ := hideIt (ancZ_eq hu)
        rw [hz] at HAZ
        have HUr := hideIt hu.2.2
        have HAR := hideIt (ancZ_eq hu.2.2)
        have hne : ((u : Int) != -1) = true := by rw [bne_iff_ne]; omega
        rw [hz]
        have HRf := hideIt (ref_m (HM2.out.below hbr) p3)
        have HRo := hideIt hrow
        have HBw := hideIt hbr
        have HBz := hideIt (show w2.heap.size ≤ wr.heap.size from hbr.size)
        have HPL : Hid (l0 = (pre ++ [u]) ++ r) := by show l0 = _; rw [hpl, List.append_assoc]; rfl
        have HLk : Hid ((pre.map (rfM M)).length ≤ 320) := by
          show _ ≤ _
          have h1 := HLn.out
          rw [hpl, List.length_append] at h1
          rw [List.length_map]
          omega
        have HMP : Hid ((pre ++ [u]).map (rfM M) = pre.map (rfM M) ++ [(u, (M u).gen)]) := by show _ = _; rw [List.map_append]; rfl
        clear hu hpl hrow hbr e hz
        generalize (M u).gen = ge at *
        generalize hq : (M u).par = y at *
        have HQ := hideIt hq
        clear hq
        generalize pre.map (rfM M) = rl at *
        go_wp2_with (first | (go_at_call 206; refine HRf.out.mono ?_; rintro e w5 ⟨rfl, hb5⟩; have HO5 := hideIt (HRo.out.below hb5); have HB5 := hideIt (Nat.le_trans HBz.out hb5.size)) | (at_builtin; refine wpList_append_own_at _ rfl (.tmp 32) (.tmp 36) 55 rfl w2.heap.size 32 i2 (.agg #[.int .u16 0, .int .u32 0]) 2 8 Tryz.underlying55 hi2 hz2 hs2 hb2 rfl (by decide) _ _ _ rfl (World.ownsRow.alloc HO5.out _) ⟨w5.heap.size, 0, none⟩ 1 1 [.int .u16 (u : Int), .int .u32 ge] rfl rfl (new_two w5 _ rfl _ _ _) (ones2 _ _) (by have := HLk.out; unfold maxLen; omega) (by have := HLk.out; omega) (by have := HB5.out; simp; omega) ?_; intro v' w8 hown8 hgrow8 _ hwh8; have HB8 := hideIt ((HBw.out.trans (hb5.mono HBz.out)).trans (Grown.below HB5.out hgrow8 (fun b hb => (owns_lt HO5.out b hb).1))); have HO8 := hideIt hown8; clear hown8 hgrow8 hwh8; have zpn := (HM2.out.below HB8.out).par p3))
        go_roundw
        case rel => exact ⟨y, pre ++ [u], r, by rw [HQ.out], HUr.out, HPL.out, by rw [HMP.out]; unfold ROwn; rw [refL_one, List.length_append]; exact HO8.out, HB8.out⟩
        case measure =>
          rw [HQ.out]
          show (ancZ M (pz y)).length < (ancZ M (u : Int)).length
          rw [HAZ.out, HAR.out]
          simp
  · have hX2 : X = (bad (chk M i g), M) := by rw [HX.out]; unfold ownX; rw [if_pos hc]
    have HX2 := hideIt hX2
    have hcb : (chk M i g != 0) = true := by rw [bne_iff_ne]; exact hc
    clear hX2 hc HX
    generalize chk M i g = c at *
    go_enter Tryz.func88, Tryz.ntmps88
    go_upto_region 1 with fail
    rw [show (w.alloc (.cells #[.int .u16 (i : Int), .int .u32 g] 32)).alloc (.cells #[.int .u8 0, .slice none 0 0, .slice none 0 0] 57) = stW i g w from rfl]
    generalize stW i g w = w0 at *
    go_wp2_with fail
    go_at_call 211
    refine HC.out.mono ?_
    rintro e w1 ⟨rfl, hb1⟩
    have HB1 := hideIt (Below.thr HB.out hb1)
    have HS1 := hideIt ((hb1.block _ (heap_lt HS.out)).trans HS.out)
    clear hb1 x0 x1 HC HM HS HR HB
    go_wp2_with (go_at_call 90; refine (fail_m _ _).mono ?_; rintro e w3 ⟨rfl, hb3⟩; have hs3 := (hb3.block _ (heap_lt HS1.out)).trans HS1.out; obtain ⟨q0, q1, q2, k0, k1, k2⟩ := three_cells hs3; have HZ := hideIt (three_set hs3 (.int .u8 c) (.slice none 0 0) (.slice none 0 0)); have HF := hideIt (MsP.bad H0.out ((((Below.thr HB1.out hb3).setCell (p := ⟨w.heap.size + 1, 0, none⟩) (Nat.le_succ _) (.int .u8 c)).setCell (p := ⟨w.heap.size + 1, 1, none⟩) (Nat.le_succ _) (.slice none 0 0)).setCell (p := ⟨w.heap.size + 1, 2, none⟩) (Nat.le_succ _) (.slice none 0 0)) HX2.out); clear hb3 hs3)
    refine bodyPost_ret (v := .agg #[.int .u8 c, (.slice none 0 0), (.slice none 0 0)]) ?_ rfl HF.out
    exact results_cell_row (by exact Tryz.results88) _ _ (w.heap.size + 1) _ _ _ _ (by rfl) (by exact HZ.out) Tryz.underlying57 rfl (by kernel_rfl)
end
end Go.Proofs.Qxb6500847aGreatDoor.Os
