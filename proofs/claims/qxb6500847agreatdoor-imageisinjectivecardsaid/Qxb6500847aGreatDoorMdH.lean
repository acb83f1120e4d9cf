/-
  The abstract model: the numbers of a sound state; mayRetype.
-/
import Derived.Test.Qxb6500847aGreatDoorMdG
import Derived.Test.Qxb6500847aGreatDoorMdF
namespace Go.Proofs.Qxb6500847aGreatDoor.Os
open Go.RowKit FloorA
set_option maxRecDepth 100000
section
variable {s : Av} {tl : Nat → List Int} {ws : Nat → Nat → Nat → Int} {L : Nat → List Nat} {n p : Nat}
/-- A sound state. -/
structure Sd (s : Av) (tl : Nat → List Int) (ws : Nat → Nat → Nat → Int) (L : Nat → List Nat) (n : Nat) : Prop where
  iv : IV s tl L n
  ix : IX s tl L n
  wr : Wr ws
theorem Sd.isk (h : Sd s tl ws L n) (hp : p < 320) : ∃ l, IsK (ob s ws) p l := by
  by_cases q : IsReg s p
  · exact ⟨_, kds_reg h.ix h.iv q⟩
  · exact ⟨_, kds_none h.iv q hp⟩
theorem Sd.num (h : Sd s tl ws L n) : Mk (ob s ws) := by
  have at_ : ∀ i, i < 320 → ob s ws i = ⟨(s.hd i).gen, (s.hd i).typ, (s.hd i).bas, (s.hd i).siz, (s.hd i).par, wdsOf (s.hd i) ws⟩ := fun i hi => ob_at _ _ hi
  refine ⟨fun i hi => ?_, fun i hi ht => ?_, fun i hi => ?_, fun i hi => ?_, fun i hi ht => ?_, fun i hi => ?_, fun i hi ht => ?_, fun i hi => ?_, fun i hi x hx => ?_⟩
  · obtain ⟨g, e, g1, g2, _⟩ := h.iv.ge.gen i hi
    exact ⟨g, by rw [at_ i hi]; exact e, g1, g2⟩
  · rw [at_ i hi] at ht ⊢
    obtain ⟨g, e, g1, g2, g3⟩ := h.iv.ge.gen i hi
    have := g3 (Or.inl ht)
    show (s.hd i).gen < 4294967295
    omega
  · obtain ⟨k, e, k7, kr⟩ := h.iv.ge.typ i hi
    exact ⟨k, by rw [at_ i hi]; exact e, k7, kr⟩
  · rw [at_ i hi]
    by_cases q : (s.hd i).typ = 0
    · obtain ⟨a, b, _⟩ := h.ix.gm.fre i hi q
      show 0 ≤ (s.hd i).bas ∧ 0 ≤ (s.hd i).siz ∧ (s.hd i).bas + (s.hd i).siz ≤ _
      omega
    · obtain ⟨a, b, c⟩ := h.ix.gm.lim i hi q
      show 0 ≤ (s.hd i).bas ∧ 0 ≤ (s.hd i).siz ∧ (s.hd i).bas + (s.hd i).siz ≤ _
      omega
  · rw [at_ i hi] at ht ⊢
    exact (h.ix.gm.lim i hi ht).2.1
  · rw [at_ i hi]
    by_cases q : (s.hd i).typ = 0
    · exact Or.inl (h.ix.gm.fre i hi q).2.2
    · exact h.iv.par' hi q
  · rw [at_ i hi] at ht ⊢
    exact h.ix.gm.fre i hi ht
  · rw [at_ i hi]
    show (wdsOf (s.hd i) ws).length = _
    unfold wdsOf
    show _ = (if (s.hd i).typ < 2 then 0 else nF ((s.hd i).typ.toNat - 2))
    split
    · rfl
    · rw [wlist_len]
  · rw [at_ i hi] at hx
    have hx' : x ∈ wdsOf (s.hd i) ws := hx
    unfold wdsOf at hx'
    split at hx'
    · simp at hx'
    · unfold wlist at hx'
      obtain ⟨f, hf, rfl⟩ := List.mem_map.1 hx'
      rename_i hq
      obtain ⟨k, e, k7, _⟩ := h.iv.ge.typ i hi
      obtain ⟨r, er, r1, _⟩ := h.iv.tb.row i k hi (by omega) k7 e
      have e1 : (s.hd i).typ.toNat - 2 = k - 2 := by omega
      have e2 : (s.hd i).row.toNat = r := by omega
      rw [e1] at hf ⊢
      rw [e2]
      have hw := (h.wr (k - 2) r (by omega) r1).1 f (List.mem_range.1 hf)
      exact ⟨hw.1, Int.lt_of_lt_of_le hw.2 (fMax_le _ _)⟩
theorem Sd.reg {i : Nat} {g : Int} (h : Sd s tl ws L n) (hc : chkR (ob s ws) i g = 0) : IsReg s i := by
  have hc' := hc
  unfold chkR at hc
  by_cases q : chk (ob s ws) i g ≠ 0
  · rw [if_pos q] at hc; exact absurd hc q
  · rw [if_neg q] at hc
    obtain ⟨hi, _, _, _⟩ := chk_lt (by simpa using q : chk (ob s ws) i g = 0)
    by_cases q2 : (ob s ws i).typ = 1
    · rw [ob_at _ _ hi] at q2
      have q3 : (s.hd i).typ = 1 := q2
      obtain ⟨k, e, k7, kr⟩ := h.iv.ge.typ i hi
      exact ⟨(kr (by omega)).1 (by omega), hi, q3⟩
    · rw [if_neg q2] at hc; exact absurd hc (by decide)
theorem reg_room {M : Nat → En} (hM : Mk M) : ∀ k, k ≤ 320 → cntT M 1 k + ((spr M 256 k).length : Int) ≤ if k < 256 then 0 else (k : Int) - 256
  | 0, _ => by simp [cntT, sumF, spr]
  | k + 1, hk => by
    have ih := reg_room hM k (by omega)
    have e : cntT M 1 (k + 1) = cntT M 1 k + one ((M k).typ = ((1 : Nat) : Int)) := rfl
    have e2 := spr_succ M 256 k
    obtain ⟨t, et, _, kr⟩ := hM.typ k (by omega)
    rw [e, e2]
    by_cases q : (M k).typ = ((1 : Nat) : Int)
    · have hk2 : 256 ≤ k := (kr (by omega)).1 (by omega)
      rw [if_neg (fun z => by omega)]
      unfold one
      rw [if_pos q]
      rw [if_neg (by omega)]
      by_cases q3 : k < 256
      · omega
      · rw [if_neg q3] at ih; omega
    · unfold one
      rw [if_neg q]
      by_cases q2 : 256 ≤ k ∧ (M k).typ = 0 ∧ (M k).gen < 4294967295
      · rw [if_pos q2, if_neg (by omega), List.length_append]
        rw [if_neg (by omega)] at ih
        simp
        omega
      · rw [if_neg q2]
        by_cases q3 : k < 256
        · rw [if_pos q3] at ih
          split <;> omega
        · rw [if_neg q3] at ih
          rw [if_neg (by omega)]
          omega
theorem spN_lt {E st z k : Nat} (hz : 0 < z) (hk : 1 ≤ k) : spN E st z < k ↔ E < st + k * z := by
  unfold spN
  by_cases q : st < E
  · rw [if_pos q, Nat.div_lt_iff_lt_mul hz]
    omega
  · rw [if_neg q]
    have : 1 * z ≤ k * z := Nat.mul_le_mul_right z hk
    omega
/-- The code that a retype request meets. -/
noncomputable def mrM (M : Nat → En) (i : Nat) (g : Int) (t bt k : Nat) : Int :=
  if plM M i g t bt ≠ 0 then plM M i g t bt else if k < 1 ∨ 32 < k then 6 else if spM M i t bt < k then 7 else if (spr M (loT t) (hiT t)).length < k then 8 else if rmM M t < (k : Int) then 9 else 0
theorem Sd.ends (h : Sd s tl ws L n) (hp : IsReg s p) : ∃ T E : Nat, topM (ob s ws) p = (T : Int) ∧ (ob s ws p).bas + (ob s ws p).siz = (E : Int) ∧ T ≤ E ∧ E ≤ 281474976710656 := by
  obtain ⟨c1, c2⟩ := h.ix.gm.chn p hp
  have c3 := Chn.le (h.ix.pos h.iv hp) c1
  obtain ⟨l0, l1, l2⟩ := h.ix.gm.lim p hp.2.1 (by rw [hp.2.2]; decide)
  refine ⟨(s.rg (p - 256)).top.toNat, ((s.hd p).bas + (s.hd p).siz).toNat, ?_, ?_, by omega, by omega⟩
  · rw [top_reg h.ix h.iv hp]; omega
  · rw [ob_at _ _ hp.2.1]
    show (s.hd p).bas + (s.hd p).siz = _
    omega
variable {w : World} {B : Nat} {wb : Nat → Nat}
theorem eql_nil35 (w : World) (a : Option Addr) (l c : Nat) : (binOp .eql 35 (.slice a l c) (.slice none 0 0)).run Tryz.prog w = .ok (.bool a.isNone) w := by
  simp [binOp, run_equal_slice_nil w 35 34 a l c Tryz.underlying35]
set_option maxHeartbeats 8000000 in
theorem mayRetype_m (h : Md w B wb (ob s ws)) (hS : Sd s tl ws L n) {i t bt k : Nat} {g : Int} (h6 : i < 65536) (hbt : bt < 256) (hk6 : k < 65536) :
    Calls Tryz.prog 207 #[.pointer (some ⟨B, 0, none⟩), .agg #[.int .u16 (i : Int), .int .u32 g], .int .u8 (t : Int), .int .u8 (bt : Int), .int .i64 (k : Int)] w fun e w' => e = .returned (.int .u8 (mrM (ob s ws) i g t bt k)) ∧ Below w.heap.size w w' := by
  have bB := alloc_below (w := w) (.cells #[.int .u16 (i : Int), .int .u32 g] 32)
  have hz : (w.alloc (.cells #[.int .u16 (i : Int), .int .u32 g] 32)).heap[w.heap.size]? = some (.cells #[.int .u16 (i : Int), .int .u32 g] 32 (0, 0)) := heap_new _ _
  obtain ⟨x0, x1, _, _⟩ := two_cells hz
  have HM := hideIt (h.below bB)
  have HS := hideIt hS
  have HMk := hideIt hS.num
  have HB := hideIt bB
  have HZ := hideIt hz
  have HC := hideIt (checkR_m HM.out i h6 g)
  have HSz := hideIt (fun w => sizeOf_m w (t := t) hbt)
  clear h bB hz hS
  obtain ⟨R, hR⟩ : ∃ R, R = mrM (ob s ws) i g t bt k := ⟨_, rfl⟩
  rw [← hR]
  have HR := hideIt hR
  clear hR
  by_cases hc : chkR (ob s ws) i g = 0
  · have hreg := HS.out.reg hc
    rw [hc] at HC
    have HP : Hid (plM (ob s ws) i g t bt = szC t bt) := by show plM _ _ _ _ _ = _; unfold plM; rw [if_neg (by rw [hc]; simp)]
    clear hc
    go_enter Tryz.func207, Tryz.ntmps207
    go_wp2_with fail
    go_at_call 214
    refine HC.out.mono ?_
    rintro e w1 ⟨rfl, hb1⟩
    obtain ⟨y0, y1, _, _⟩ := two_cells ((hb1.block _ (heap_lt HZ.out)).trans HZ.out)
    have HM1 := hideIt (HM.out.below hb1)
    have HB1 := hideIt (Below.thr HB.out hb1)
    clear x0 x1 hb1 HC HM
    go_wp2_with fail
    go_at_call 208
    refine (HSz.out w1).mono ?_
    rintro e w' ⟨hw', hh⟩
    obtain rfl := hw'.symm
    clear hw' HSz
    rcases hh with ⟨hn, rfl⟩ | ⟨hs0, t1, t7, q47, q4, rfl⟩
    · have HF : Hid (R = szC t bt) := by show R = _; rw [HR.out]; unfold mrM; rw [HP.out, if_pos hn]
      have hb : (szC t bt != 0) = true := by rw [bne_iff_ne]; exact hn
      clear hn
      generalize szC t bt = c at *
      go_wp2_with fail
      go_ret
      exact ⟨by rw [HF.out]; rfl, HB1.out⟩
    · have HR2 : Hid (R = if k < 1 ∨ 32 < k then 6 else if spM (ob s ws) i t bt < k then 7 else if (spr (ob s ws) (loT t) (hiT t)).length < k then 8 else if rmM (ob s ws) t < (k : Int) then 9 else 0) := by show R = _; rw [HR.out]; unfold mrM; rw [HP.out, hs0, if_neg (by simp)]
      clear HP HR
      by_cases hk : k < 1 ∨ 32 < k
      · have HF : Hid (R = 6) := by show R = 6; rw [HR2.out, if_pos hk]
        clear HR2
        by_cases hk1 : k < 1
        · have c1 : (k : Int) < 1 := by omega
          go_wp2_with fail
          go_ret
          exact ⟨by rw [HF.out]; rfl, HB1.out⟩
        · have c1 : ¬ (k : Int) < 1 := by omega
          have c2 : (k : Int) > 32 := by omega
          go_wp2_with fail
          go_ret
          exact ⟨by rw [HF.out]; rfl, HB1.out⟩
      · have c1 : ¬ (k : Int) < 1 := by omega
        have c2 : ¬ (k : Int) > 32 := by omega
        obtain ⟨T, E, hT, hE, hTE, hE2⟩ := HS.out.ends hreg
        have hi := hreg.2.1
        have hzp : 0 < 2 ^ szQ t bt := Nat.two_pow_pos _
        have hzl : 2 ^ szQ t bt ≤ 140737488355328 := Nat.le_trans (Nat.pow_le_pow_right (by decide) q47) (by decide)
        have HPc := hideIt (places_m HM1.out HMk.out hi (HS.out.isk hi) (tf_top HS.out.ix HS.out.iv hreg) hT hE hTE hzp hzl (k := k) (by omega) (by omega))
        have HSP : Hid (spM (ob s ws) i t bt = spN E (alU T (2 ^ szQ t bt)) (2 ^ szQ t bt)) := by
          show spM _ _ _ _ = _
          unfold spM stM
          rw [hT, hE]
          rfl
        have HLT := hideIt (spN_lt (E := E) (st := alU T (2 ^ szQ t bt)) hzp (show 1 ≤ k by omega))
        have HR3 : Hid (R = if spM (ob s ws) i t bt < k then 7 else if (spr (ob s ws) (loT t) (hiT t)).length < k then 8 else if rmM (ob s ws) t < (k : Int) then 9 else 0) := by show R = _; rw [HR2.out, if_neg hk]
        clear HR2 hT hE hTE hE2 hzp hzl
        generalize (2 ^ szQ t bt : Nat) = z at *
        have i6 : wrap64 (i : Int) = (i : Int) := by unfold wrap64; omega
        go_wp2_with fail
        go_at_call 209
        refine HPc.out.mono ?_
        rintro e w2 ⟨hb2, hh⟩
        have HM2 := hideIt (HM1.out.below hb2)
        have HB2 := hideIt (Below.thr HB1.out hb2)
        clear hb2 HPc HM1 HB1 y0 y1
        rcases hh with ⟨hlt, rfl⟩ | ⟨hle, v, rfl, hown⟩
        · have HF : Hid (R = 7) := by show R = 7; rw [HR3.out, HSP.out, if_pos (HLT.out.2 hlt)]
          have hnl := eql_nil35 w2 none 0 0
          clear hlt
          go_wp2_with fail
          go_ret
          exact ⟨by rw [HF.out]; rfl, HB2.out⟩
        · have HR4 : Hid (R = if (spr (ob s ws) (loT t) (hiT t)).length < k then 8 else if rmM (ob s ws) t < (k : Int) then 9 else 0) := by show R = _; rw [HR3.out, HSP.out, if_neg (fun q => by have := HLT.out.1 q; omega)]
          obtain ⟨g9, c9, rfl⟩ : ∃ g c, v = .slice (some ⟨g, 0, none⟩) k c := by
            rcases hown.2 with ⟨_, e⟩ | ⟨g, c, cur, e1, _⟩
            · rw [plL_len] at e; omega
            · rw [plL_len] at e1; exact ⟨g, c, e1⟩
          have HSr := hideIt (spare_m HM2.out HMk.out t)
          have hnl := eql_nil35 w2 (some ⟨g9, 0, none⟩) k c9
          clear hle hown HR3 HSP HLT
          go_wp2_with fail
          go_at_call 205
          refine HSr.out.mono ?_
          rintro e w3 ⟨v3, rfl, hown3, hb3⟩
          obtain ⟨a3, c3, rfl⟩ := hown3.form
          have HM3 := hideIt (HM2.out.below hb3)
          have HB3 := hideIt (Below.thr HB2.out hb3)
          have HMs := hideIt (fun w => most_m w t)
          have HCt := hideIt (count_m HM3.out t)
          have HCr := hideIt (cntT_rng (ob s ws) t 320)
          have HRM : Hid (¬ (spr (ob s ws) (loT t) (hiT t)).length < k → (rmM (ob s ws) t < (k : Int) ↔ cntT (ob s ws) t 320 + (k : Int) > mosT t)) := fun hsl => by
            unfold rmM
            by_cases ht1 : t = 1
            · rw [if_pos ht1]
              subst ht1
              have rr := reg_room HMk.out 320 (by omega)
              rw [if_neg (by omega)] at rr
              have h1 : (spr (ob s ws) (loT 1) (hiT 1)).length = (spr (ob s ws) 256 320).length := rfl
              rw [h1] at hsl
              show (64 : Int) < (k : Int) ↔ cntT (ob s ws) 1 320 + (k : Int) > 64
              constructor <;> intro q <;> omega
            · rw [if_neg ht1, mos_nR (by omega) t7]
              show (nR (t - 2) : Int) - cntT (ob s ws) t 320 < (k : Int) ↔ _
              omega
          have HSL := hideIt (spr_le (ob s ws) (loT t) (hiT t))
          clear hb3 hown3 HSr HM2 HB2
          generalize (spr (ob s ws) (loT t) (hiT t)).length = sl at *
          by_cases hsl : sl < k
          · have HF : Hid (R = 8) := by show R = 8; rw [HR4.out, if_pos hsl]
            have c5 : (sl : Int) < (k : Int) := by omega
            go_wp2_with fail
            go_ret
            exact ⟨by rw [HF.out]; rfl, HB3.out⟩
          · have c5 : ¬ (sl : Int) < (k : Int) := by omega
            have HR5 : Hid (R = if rmM (ob s ws) t < (k : Int) then 9 else 0) := by show R = _; rw [HR4.out, if_neg hsl]
            have hq := HRM.out hsl
            have hcr := HCr.out
            clear HR4 HRM HCr
            generalize cntT (ob s ws) t 320 = ct at *
            generalize mosT t = mt at *
            by_cases hgt : ct + (k : Int) > mt
            · have HF : Hid (R = 9) := by show R = 9; rw [HR5.out, if_pos (hq.2 hgt)]
              clear hq HR5
              go_wp2_with (first | (go_at_call 275; refine HCt.out.mono ?_; rintro e w' ⟨rfl, hw'⟩; obtain rfl := hw'.symm) | (go_at_call 276; refine (HMs.out _).mono ?_; rintro e w' ⟨rfl, hw'⟩; obtain rfl := hw'.symm))
              go_ret
              exact ⟨by rw [HF.out]; rfl, HB3.out⟩
            · have HF : Hid (R = 0) := by show R = 0; rw [HR5.out, if_neg (fun z => hgt (hq.1 z))]
              clear hq HR5
              go_wp2_with (first | (go_at_call 275; refine HCt.out.mono ?_; rintro e w' ⟨rfl, hw'⟩; obtain rfl := hw'.symm) | (go_at_call 276; refine (HMs.out _).mono ?_; rintro e w' ⟨rfl, hw'⟩; obtain rfl := hw'.symm))
              go_ret
              exact ⟨by rw [HF.out]; rfl, HB3.out⟩
  · have hb : (chkR (ob s ws) i g != 0) = true := by rw [bne_iff_ne]; exact hc
    have HF : Hid (R = chkR (ob s ws) i g) := by
      show R = _
      have e : plM (ob s ws) i g t bt = chkR (ob s ws) i g := by unfold plM; rw [if_pos hc]
      rw [HR.out]
      unfold mrM
      rw [e, if_pos hc]
    clear hc
    generalize chkR (ob s ws) i g = c at *
    go_enter Tryz.func207, Tryz.ntmps207
    go_wp2_with fail
    go_at_call 214
    refine HC.out.mono ?_
    rintro e w1 ⟨rfl, hb1⟩
    have HB1 := hideIt (Below.thr HB.out hb1)
    clear x0 x1 hb1 HC HM
    go_wp2_with fail
    go_ret
    exact ⟨by rw [HF.out]; rfl, HB1.out⟩
end
end Go.Proofs.Qxb6500847aGreatDoor.Os
