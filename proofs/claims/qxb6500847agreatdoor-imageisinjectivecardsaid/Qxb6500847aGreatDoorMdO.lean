/-
  The abstract model: listChildren.
-/
import Derived.Test.Qxb6500847aGreatDoorMdJ
import Derived.Test.Qxb6500847aGreatDoorMdK
namespace Go.Proofs.Qxb6500847aGreatDoor.Os
open Go.RowKit FloorA
set_option maxRecDepth 100000
theorem inf32m : (Tryz.prog.info? 32).map (fun i => (i.zero, i.size, i.bytes)) = some (some (.agg #[.int .u16 0, .int .u32 0]), 2, 8) := by kernel_rfl
def ROwn (base : Nat) (w : World) (v : Value) (l : List (Nat × Int)) : Prop := w.ownsRow base 32 2 v l.length (refL l)
theorem ROwn.nil (base : Nat) (w : World) : ROwn base w (.slice none 0 0) [] := ⟨rfl, Or.inl ⟨rfl, rfl⟩⟩
theorem ROwn.below {base : Nat} {w w' : World} {v : Value} {l : List (Nat × Int)} (h : ROwn base w v l) (k : Below w.heap.size w w') : ROwn base w' v l := owns_keep h (fun q hq => k.block q (owns_lt h q hq).2)
theorem ROwn.isr {base B0 : Nat} {w : World} {v : Value} {l : List (Nat × Int)} (h : ROwn base w v l) (hb : B0 ≤ base) : IsR B0 w v l := Sq.mono (Sq.of_owns h (by
  rcases h.2 with ⟨e, e2⟩ | ⟨g, c, cur, e1, _⟩
  · exact ⟨none, 0, by rw [e, e2]⟩
  · exact ⟨_, c, e1⟩)) hb
theorem refL_one (l : List (Nat × Int)) (r : Nat × Int) : refL (l ++ [r]) = refL l ++ [.int .u16 (r.1 : Int), .int .u32 r.2] := by simp [refL]
section
variable {w w' : World} {B : Nat} {wb : Nat → Nat} {M : Nat → En}
set_option maxHeartbeats 4000000 in
theorem listChildren_m (h : Md w B wb M) (hM : Mk M) (hK : ∀ p, p < 320 → ∃ l, IsK M p l) (i : Nat) (h6 : i < 65536) (g : Int) :
    Calls Tryz.prog 78 #[.pointer (some ⟨B, 0, none⟩), .agg #[.int .u16 (i : Int), .int .u32 g]] w (MsP B wb M (chiX M i g, M) w) := by
  have hb0 := stW_below i g w
  obtain ⟨x0, x1, _, _⟩ := two_cells (stW_r i g w)
  have HR := hideIt (stW_r i g w)
  have HS := hideIt (stW_s i g w)
  have H0 := hideIt h
  have HM := hideIt (h.below hb0)
  have HMk := hideIt hM
  have HB := hideIt hb0
  have HC := hideIt (checkR_m HM.out i h6 g)
  obtain ⟨X, hX⟩ : ∃ X, X = (chiX M i g, M) := ⟨_, rfl⟩
  rw [← hX]
  have HX := hideIt hX
  clear h hb0 hM hX
  by_cases hc : chkR M i g = 0
  · have hi : i < 320 := by
      unfold chkR at hc
      by_cases q : chk M i g ≠ 0
      · rw [if_pos q] at hc; exact absurd hc q
      · exact (chk_lt (by simpa using q)).1
    have i3 : (i : Int) < 320 := by omega
    obtain ⟨i2, hi2, hz2, hs2, hb2⟩ := info_parts inf32m
    rw [hc] at HC
    have HCK : Hid (chkR M i g = 0) := hc
    have i6 : wrap64 (i : Int) = (i : Int) := by unfold wrap64; omega
    clear hc
    go_enter Tryz.func78, Tryz.ntmps78
    go_upto_region 1 with fail
    rw [show (w.alloc (.cells #[.int .u16 (i : Int), .int .u32 g] 32)).alloc (.cells #[.int .u8 0, .slice none 0 0, .slice none 0 0] 57) = stW i g w from rfl]
    generalize stW i g w = w0 at *
    go_wp2_with fail
    go_at_call 214
    refine HC.out.mono ?_
    rintro e w1 ⟨rfl, hb1⟩
    have hr1 := (hb1.block _ (heap_lt HR.out)).trans HR.out
    obtain ⟨y0, y1, _, _⟩ := two_cells hr1
    have HB1 := hideIt (Below.thr HB.out hb1)
    have HM1 := hideIt (HM.out.below hb1)
    have HS1 := hideIt ((hb1.block _ (heap_lt HS.out)).trans HS.out)
    have HR1 := hideIt hr1
    clear hb1 hr1 x0 x1 HC HM HS HR HB
    have HCh := hideIt (children_m HM1.out HMk.out hi (hK i hi))
    have HX3 : Hid (X = (⟨0, (kdsM M i).map (rfM M), []⟩, M)) := by show X = _; rw [HX.out]; unfold chiX; rw [if_neg (by rw [HCK.out]; simp)]
    have HL3 : Hid (∀ c ∈ kdsM M i, c < 320) := fun c hc => by
      obtain ⟨l, hl⟩ := hK i hi
      rw [kds_eq hl] at hc
      exact ((hl.1 c).1 hc).1
    have HLn := hideIt (kds_len M i)
    clear hK HX
    go_wp2_with fail
    go_at_call 212
    refine HCh.out.mono ?_
    rintro e w2 ⟨v, rfl, hown, hb2'⟩
    obtain ⟨ad, cp, rfl⟩ := hown.form
    have HO := hideIt hown
    have HB2 := hideIt (Below.thr HB1.out hb2')
    have HM2 := hideIt (HM1.out.below hb2')
    have HS2 := hideIt ((hb2'.block _ (heap_lt HS1.out)).trans HS1.out)
    obtain ⟨l, hl⟩ : ∃ l, l = kdsM M i := ⟨_, rfl⟩
    rw [← hl] at HO HX3 HL3 HLn
    rw [← hl]
    clear hown hb2' HCh HM1 HB1 HS1 HR1 y0 y1 hl
    go_wp2_with fail
    go_loopw [6, 22] (fun v6 v22 wr => ∃ k : Nat, k ≤ l.length ∧ v22 = .int .i64 (k : Int) ∧ ROwn w2.heap.size wr v6 ((l.take k).map (rfM M)) ∧ Below w2.heap.size w2 wr) (fun _ j _ => l.length - (intOf j).toNat)
    case atStart => exact ⟨0, Nat.zero_le _, rfl, ROwn.nil _ _, Below.refl _ _⟩
    case round =>
      obtain ⟨k, hk, rfl, hrow, hbr⟩ := hrel
      have hln := HLn.out
      by_cases hlt : k < l.length
      · have hlt' : (k : Int) < (l.length : Int) := by omega
        obtain ⟨gg, cg, eg, _, _, _, hcl⟩ := HO.out.at (by omega)
        obtain ⟨rfl, rfl⟩ : ad = some ⟨gg, 0, none⟩ ∧ cp = cg := by
          injection eg with e1 e2 e3
          exact ⟨e1, e3⟩
        obtain ⟨u, hu⟩ : ∃ u, l[k]? = some u := ⟨_, List.getElem?_eq_getElem hlt⟩
        have hu3 : u < 320 := HL3.out u (List.mem_of_getElem? hu)
        have cu := (hbr.cell (p := ⟨gg, k, none⟩) (cell_lt (hcl k u hu))).trans (hcl k u hu)
        have htk : (l.take (k + 1)).map (rfM M) = (l.take k).map (rfM M) ++ [(u, (M u).gen)] := by
          rw [List.take_succ_eq_append_getElem hlt, List.map_append]
          rw [List.getElem?_eq_getElem hlt] at hu
          rw [Option.some.inj hu]
          rfl
        have HTK := hideIt htk
        have HRf := hideIt (ref_m (HM2.out.below hbr) hu3)
        have HRo := hideIt hrow
        have HBw := hideIt hbr
        have HBz := hideIt (show w2.heap.size ≤ wr.heap.size from hbr.size)
        have HLk : Hid (((l.take k).map (rfM M)).length ≤ 320) := by show _ ≤ _; rw [List.length_map, List.length_take]; omega
        clear hcl eg hu htk hrow hbr
        generalize (M u).gen = ge at *
        generalize (l.take k).map (rfM M) = rl at *
        go_wp2_with (first | (go_at_call 206; refine HRf.out.mono ?_; rintro e w5 ⟨rfl, hb5⟩; have HO5 := hideIt (HRo.out.below hb5); have HB5 := hideIt (Nat.le_trans HBz.out hb5.size)) | (at_builtin; refine wpList_append_own_at _ rfl (.tmp 26) (.tmp 30) 55 rfl w2.heap.size 32 i2 (.agg #[.int .u16 0, .int .u32 0]) 2 8 Tryz.underlying55 hi2 hz2 hs2 hb2 rfl (by decide) _ _ _ rfl (World.ownsRow.alloc HO5.out _) ⟨w5.heap.size, 0, none⟩ 1 1 [.int .u16 (u : Int), .int .u32 ge] rfl rfl (new_two w5 _ rfl _ _ _) (ones2 _ _) (by have := HLk.out; unfold maxLen; omega) (by have := HLk.out; omega) (by have := HB5.out; simp; omega) ?_; intro v' w8 hown8 hgrow8 _ hwh8; have HB8 := hideIt ((HBw.out.trans (hb5.mono HBz.out)).trans (Grown.below HB5.out hgrow8 (fun b hb => (owns_lt HO5.out b hb).1))); have HO8 := hideIt hown8; clear hown8 hgrow8 hwh8))
        go_roundw
        case rel => exact ⟨k + 1, by omega, by go_num, by rw [HTK.out]; unfold ROwn; rw [refL_one, List.length_append]; exact HO8.out, HB8.out⟩
        case measure => simp [intOf]; omega
      · have hkl : k = l.length := by omega
        subst hkl
        rw [List.take_length] at hrow
        have HRo := hideIt hrow
        have HBw := hideIt hbr
        have hs5 := (hbr.block _ (heap_lt HS2.out)).trans HS2.out
        obtain ⟨rz, rc, hrz⟩ : ∃ a c, u6 = .slice a (l.map (rfM M)).length c := by
          rcases hrow.2 with ⟨e, e2⟩ | ⟨g, c, cur, e1, _⟩
          · exact ⟨none, 0, by rw [e, e2]⟩
          · exact ⟨_, c, e1⟩
        subst hrz
        obtain ⟨r0, r1, r2, f0, f1, f2⟩ := three_cells hs5
        have HZ := hideIt (three_set hs5 (.int .u8 0) (.slice rz (l.map (rfM M)).length rc) (.slice none 0 0))
        have HF : Hid (MsP B wb M X w (.returned (.agg #[.int .u8 0, .slice rz (l.map (rfM M)).length rc, .slice none 0 0])) (((wr.setCell ⟨w.heap.size + 1, 0, none⟩ (.int .u8 0)).setCell ⟨w.heap.size + 1, 1, none⟩ (.slice rz (l.map (rfM M)).length rc)).setCell ⟨w.heap.size + 1, 2, none⟩ (.slice none 0 0))) := by
          show MsP _ _ _ _ _ _ _
          rw [HX3.out]
          exact MsP.fin (X := ⟨0, l.map (rfM M), []⟩) H0.out (Below.thr HB2.out HBw.out) rfl (HRo.out.isr (by have := heap_lt HS2.out; omega)) (IsU.nil _ _) (.int .u8 0) (.slice rz (l.map (rfM M)).length rc) (.slice none 0 0)
        clear hrow hbr hs5
        generalize (l.map (rfM M)).length = rn at *
        go_wp2_with fail
        refine bodyPost_ret (v := .agg #[.int .u8 0, (.slice rz rn rc), (.slice none 0 0)]) ?_ rfl HF.out
        exact results_cell_row (by exact Tryz.results78) _ _ (w.heap.size + 1) _ _ _ _ (by rfl) (by exact HZ.out) Tryz.underlying57 rfl (by kernel_rfl)
  · have hX2 : X = (bad (chkR M i g), M) := by rw [HX.out]; unfold chiX; rw [if_pos hc]
    have HX2 := hideIt hX2
    have hcb : (chkR M i g != 0) = true := by rw [bne_iff_ne]; exact hc
    clear hX2 hc HX
    generalize chkR M i g = c at *
    go_enter Tryz.func78, Tryz.ntmps78
    go_upto_region 1 with fail
    rw [show (w.alloc (.cells #[.int .u16 (i : Int), .int .u32 g] 32)).alloc (.cells #[.int .u8 0, .slice none 0 0, .slice none 0 0] 57) = stW i g w from rfl]
    generalize stW i g w = w0 at *
    go_wp2_with fail
    go_at_call 214
    refine HC.out.mono ?_
    rintro e w1 ⟨rfl, hb1⟩
    have HB1 := hideIt (Below.thr HB.out hb1)
    have HS1 := hideIt ((hb1.block _ (heap_lt HS.out)).trans HS.out)
    clear hb1 x0 x1 HC HM HS HR HB
    go_wp2_with (go_at_call 90; refine (fail_m _ _).mono ?_; rintro e w3 ⟨rfl, hb3⟩; have hs3 := (hb3.block _ (heap_lt HS1.out)).trans HS1.out; obtain ⟨q0, q1, q2, k0, k1, k2⟩ := three_cells hs3; have HZ := hideIt (three_set hs3 (.int .u8 c) (.slice none 0 0) (.slice none 0 0)); have HF := hideIt (MsP.bad H0.out ((((Below.thr HB1.out hb3).setCell (p := ⟨w.heap.size + 1, 0, none⟩) (Nat.le_succ _) (.int .u8 c)).setCell (p := ⟨w.heap.size + 1, 1, none⟩) (Nat.le_succ _) (.slice none 0 0)).setCell (p := ⟨w.heap.size + 1, 2, none⟩) (Nat.le_succ _) (.slice none 0 0)) HX2.out); clear hb3 hs3)
    refine bodyPost_ret (v := .agg #[.int .u8 c, (.slice none 0 0), (.slice none 0 0)]) ?_ rfl HF.out
    exact results_cell_row (by exact Tryz.results78) _ _ (w.heap.size + 1) _ _ _ _ (by rfl) (by exact HZ.out) Tryz.underlying57 rfl (by kernel_rfl)
end
end Go.Proofs.Qxb6500847aGreatDoor.Os
