/-
  copyPayload: a CNode, cell by cell.
-/
import Derived.Test.Qxb6500847aGreatDoorOsTe
import Derived.Test.Qxb6500847aGreatDoorOsQf
import Derived.Test.Qxb6500847aGreatDoorOsQb
import Derived.Test.Qxb6500847aGreatDoorOsCp
import Derived.Test.Qxb6500847aGreatDoorOsTc
import Derived.BigQuiet
import Derived.Deep.MidRow
namespace Go.Proofs.Qxb6500847aGreatDoor.Os
open Go.RowKit FloorA
set_option maxRecDepth 100000
section
variable {A : Nat} {rb sb : Nat → Nat} {s : Av} {tl : Nat → List Int} {ws : Nat → Nat → Nat → Int} {w : World} {L : Nat → List Nat} {n : Nat}
theorem Rb.extT {b i j : Nat} {g gg : Int} {w' : World} (h : Rb b i j g gg w) (e : Ext w.heap.size (Tz A rb sb) w w') (hT : ∀ x, Tz A rb sb x → x < b) : Rb b i j g gg w' := by
  have n1 : ¬ Tz A rb sb b := fun q => absurd (hT b q) (by omega)
  have n2 : ¬ Tz A rb sb (b + 1) := fun q => absurd (hT (b + 1) q) (by omega)
  exact ⟨(e.cell (p := ⟨b, 0, none⟩) (cell_lt h.i0) n1).trans h.i0, (e.cell (p := ⟨b, 1, none⟩) (cell_lt h.i1) n1).trans h.i1, (e.cell (p := ⟨b + 1, 0, none⟩) (cell_lt h.j0) n2).trans h.j0, (e.cell (p := ⟨b + 1, 1, none⟩) (cell_lt h.j1) n2).trans h.j1⟩
theorem Kd.extT {w' : World} (h : Kd w) (e : Ext w.heap.size (Tz A rb sb) w w') (hT : ¬ Tz A rb sb 1) (hl : 1 < w.heap.size) : Kd w' := fun t ht => by
  obtain ⟨⟨n, hn, h1⟩, h2, h3⟩ := h t ht
  exact ⟨⟨n, hn, (e.cell (p := ⟨1, t * 4, none⟩) hl hT).trans h1⟩, (e.cell (p := ⟨1, t * 4 + 1, none⟩) hl hT).trans h2, (e.cell (p := ⟨1, t * 4 + 3, none⟩) hl hT).trans h3⟩
theorem cell_new {U : Nat → Int} : ∃ w', Nr 0 98 #[.int .u16 0, .int .u32 0, .int .u8 0, .int .u64 0, .int .u32 0, .int .u16 0, .int .u16 0, .int .u8 0] (cellL U 0) w w' := by
  have hth : (w.alloc (.cells #[.int .u16 0, .int .u32 0, .int .u8 0, .int .u64 0, .int .u32 0, .int .u16 0, .int .u16 0, .int .u8 0] 98)).there w.heap.size 0 (cellL U 0).length := fun j hj => by
    have hj' : j < 8 := hj
    have hb : (w.alloc (.cells #[.int .u16 0, .int .u32 0, .int .u8 0, .int .u64 0, .int .u32 0, .int .u16 0, .int .u16 0, .int .u8 0] 98)).heap[w.heap.size]? = some (.cells #[.int .u16 0, .int .u32 0, .int .u8 0, .int .u64 0, .int .u32 0, .int .u16 0, .int .u16 0, .int .u8 0] 98 (0, 0)) := heap_new _ _
    refine ⟨?_, frz_new _ _ _ _⟩
    rw [Nat.zero_add, box_cell hb j]
    match j, hj' with
    | 0, _ => simp
    | 1, _ => simp
    | 2, _ => simp
    | 3, _ => simp
    | 4, _ => simp
    | 5, _ => simp
    | 6, _ => simp
    | 7, _ => simp
  exact ⟨_, rfl, by rw [List.size_toArray]; exact hth, cell_sz U, cell_one U, World.rangeAt_setCells_same _ _ _ _ hth, (St1.many _ _ _ _).ext.toBelow (alloc_below _) (Nat.le_refl _) (by simp)⟩
theorem row_cell {W : Nat → Int} (h : Wq 0 W) {k : Nat} (hk : k < 16) : (∀ f, f < 7 → 0 ≤ W (7 * k + f) ∧ W (7 * k + f) < fMax 0 f) ∧ ∀ f, f < 7 → cOk f (W (7 * k + f)) := by
  refine ⟨fun f hf => ?_, fun f hf => ?_⟩
  · have := h.1 (7 * k + f) (by show 7 * k + f < 112; omega)
    have e1 : (7 * k + f) % 7 = f % 7 := by omega
    have e2 : fMax 0 (7 * k + f) = fMax 0 f := by simp only [fMax, e1]
    rw [e2] at this
    exact this
  · have := (show cOk ((7 * k + f) % 7) (W (7 * k + f)) from h.2 (7 * k + f) (show 7 * k + f < 112 by omega))
    have e1 : (7 * k + f) % 7 = f := by omega
    rw [e1] at this
    exact this
/-- The first k cells of row r have been copied into row q. -/
structure CpK (ws ws1 : Nat → Nat → Nat → Int) (r q k : Nat) : Prop where
  oth : ∀ t x, ¬ (t = 0 ∧ x = q) → ws1 t x = ws t x
  row : ∀ f, ws1 0 q f = if f < 7 * k then ws 0 r f else ws 0 q f
theorem CpK.zero (ws : Nat → Nat → Nat → Int) (r q : Nat) : CpK ws ws r q 0 := ⟨fun _ _ _ => rfl, fun f => by rw [if_neg (by omega)]⟩
theorem CpK.src {ws ws1 : Nat → Nat → Nat → Int} {r q k : Nat} (h : CpK ws ws1 r q k) (f : Nat) : ws1 0 r f = ws 0 r f := by
  by_cases e : r = q
  · subst e
    rw [h.row]
    split <;> rfl
  · rw [h.oth 0 r (fun c => e c.2)]
theorem CpK.step {ws ws1 : Nat → Nat → Nat → Int} {r q k : Nat} (h : CpK ws ws1 r q k) : CpK ws (updW ws1 0 q (putC (ws1 0 q) k (fun j => ws1 0 r (7 * k + j)))) r q (k + 1) := by
  refine ⟨fun t x hn => ?_, fun f => ?_⟩
  · unfold updW
    rw [if_neg hn]
    exact h.oth t x hn
  · unfold updW
    rw [if_pos ⟨rfl, rfl⟩]
    unfold putC
    by_cases e : f / 7 = k
    · rw [if_pos e, if_pos (by omega)]
      show ws1 0 r (7 * k + f % 7) = _
      rw [show 7 * k + f % 7 = f by omega]
      exact h.src f
    · rw [if_neg e, h.row]
      by_cases e2 : f < 7 * k
      · rw [if_pos e2, if_pos (by omega)]
      · rw [if_neg e2, if_neg (by omega)]
theorem CpK.done {ws1 : Nat → Nat → Nat → Int} {r q i j : Nat} {g gg : Int} (h : CpK ws ws1 r q 16) (hI : IV s tl L n) (hl : Live s i g) (ht : (s.hd i).typ = 2) (hr : (s.hd i).row = (r : Int)) (hj : Live s j gg) (htj : (s.hd j).typ = 2) (hq : (s.hd j).row = (q : Int)) (hW : Wr ws ∧ r < nR 0) : cpyX (ob s ws) i g j gg = (0, ob s ws1) := by
  rw [← cpy_set (t := 0) hW.1 hl (by omega) ht hr hW.2, updS_ok hj htj hq (hW.1 0 r (by omega) hW.2).2, ← ob_row hI hj.1 htj hq]
  congr 1
  funext x
  unfold ob
  by_cases hx : x < 320
  · rw [if_pos hx, if_pos hx]
    congr 1
    unfold wdsOf
    by_cases e : (s.hd x).typ < 2
    · rw [if_pos e, if_pos e]
    · rw [if_neg e, if_neg e]
      refine wlist_congr (fun f hf => ?_)
      unfold updW
      by_cases c : (s.hd x).typ.toNat - 2 = 0 ∧ (s.hd x).row.toNat = q
      · rw [if_pos c, c.1, c.2, h.row, if_pos]
        rw [c.1] at hf
        have : f < 112 := hf
        omega
      · rw [if_neg c, h.oth _ _ c]
  · rw [if_neg hx, if_neg hx]
set_option maxHeartbeats 8000000 in
theorem cp_0l (h : Ms w A rb sb s tl ws) (hI : IV s tl L n) (hW : Wr ws) (hK : Kd w) (kl : 1 < w.heap.size) (i j : Nat) (g gg : Int) (cw : Bool) (ht : (s.hd i).typ = 2) (hcw : cw = true) (hkz : ¬ Tz A rb sb 1) (hlj : Live s j gg) (hj : (s.hd j).typ = 2) :
    Calls Tryz.prog 66 #[.pointer (some ⟨A, 0, none⟩), .agg #[.int .u16 (i : Int), .int .u32 g], .agg #[.int .u16 (j : Int), .int .u32 gg], .bool cw] w (MrPost A rb sb s tl ws (cpyX (ob s ws) i g j gg) w) := by
  have k0 := cpW_below i j g gg w
  have HB0 := hideIt k0
  have HM0 := hideIt (h.below k0)
  have HK0 : Hid (Kd (cpW i j g gg w)) := hK.below k0 kl
  have HL0 : Hid (1 < (cpW i j g gg w).heap.size) := Nat.lt_of_lt_of_le kl k0.size
  have HX0 := hideIt (cpW_rb i j g gg w)
  have HI := hideIt hI
  have HW : Hid (Wr ws) := hW
  have HTZ0 : Hid (∀ b, Tz A rb sb b → b < w.heap.size) := h.tzlt
  have HKw : Hid (Kd w) := hK
  have HTK : Hid (¬ Tz A rb sb 1) := hkz
  have x5 := HX0.out.i0
  have x6 := HX0.out.i1
  clear h hI hW hK k0
  go_enter Tryz.func66, Tryz.ntmps66
  go_upto_region 1 with fail
  rw [show (w.alloc (.cells #[.int .u16 (i : Int), .int .u32 g] 32)).alloc (.cells #[.int .u16 (j : Int), .int .u32 gg] 32) = cpW i j g gg w from rfl]
  generalize cpW i j g gg w = w0 at *
  go_wp2_with fail
  go_at_call 25
  refine (Lookup_walk HM0.out HI.out i g).mono ?_
  rintro e w1 hh
  rcases hh with ⟨hnl, v, rfl, ⟨hv, hc, hb1⟩⟩ | ⟨hl, rfl, hb1⟩
  · have HB1 := hideIt (Below.thr HB0.out hb1)
    have HV1 := hideIt hv
    obtain ⟨be, rfl, _⟩ := hv
    clear hb1 x5 x6
    unfold inf7
    go_wp2_with fail
    go_ret
    exact MrPost.err (cpyX_dead hnl) ⟨HV1.out.below (by (repeat first | exact Below.refl _ _ | exact alloc_below _ | (refine Below.setCell ?_ (by first | exact Nat.le_refl _ | exact Nat.le_succ _ | (simp; done) | (simp; omega)) _) | (refine Below.alloc ?_ (by first | exact Nat.le_refl _ | (simp; done) | (simp; omega)) _))), hc, Below.thr HB1.out (by (repeat first | exact Below.refl _ _ | exact alloc_below _ | (refine Below.setCell ?_ (by first | exact Nat.le_refl _ | exact Nat.le_succ _ | (simp; done) | (simp; omega)) _) | (refine Below.alloc ?_ (by first | exact Nat.le_refl _ | (simp; done) | (simp; omega)) _)))⟩
  have hIE : ∃ x y bb z p q : Int, infS s i = inf7 x y (s.hd i).typ bb z p q := ⟨_, _, _, _, _, _, rfl⟩
  obtain ⟨x, y, bb, z, p, q, hIE⟩ := hIE
  rw [hIE]
  clear hIE
  have HLv := hideIt hl
  rw [ht]
  have HB1 := hideIt (Below.thr HB0.out hb1)
  have HM1 := hideIt (HM0.out.below hb1)
  have HK1 : Hid (Kd w1) := HK0.out.below hb1 HL0.out
  have HL1 : Hid (1 < w1.heap.size) := Nat.lt_of_lt_of_le HL0.out hb1.size
  have HX1 := hideIt (HX0.out.below hb1)
  obtain ⟨y0, y1, y2, y3⟩ := HX1.out.below (alloc_below (.cells #[.int .u16 x, .int .u32 y, .int .u8 2, .int .u64 bb, .int .u64 z, .int .u16 p, .int .u32 q] 41))
  clear hb1 x5 x6 hl HM0 HK0 HL0 HX0
  unfold inf7
  go_wp2_with fail
  subst hcw
  go_at_call 189
  refine (get_at0 HM1.out HI.out HK1.out HL1.out i g (by (repeat first | exact Below.refl _ _ | exact alloc_below _ | (refine Below.setCell ?_ (by first | exact Nat.le_refl _ | exact Nat.le_succ _ | (simp; done) | (simp; omega)) _) | (refine Below.alloc ?_ (by first | exact Nat.le_refl _ | (simp; done) | (simp; omega)) _)))).mono ?_
  rintro e w2 ⟨hb2, hh⟩
  rcases hh with ⟨_, _, r, er, hr, rfl⟩ | ⟨hn, _⟩
  rotate_left
  · exact absurd ⟨HLv.out, ht⟩ hn
  have HB2 := hideIt (Below.thr HB1.out hb2)
  have HM2 := hideIt (HM1.out.below hb2)
  have HK2 : Hid (Kd w2) := HK1.out.below hb2 HL1.out
  have HL2 : Hid (1 < w2.heap.size) := Nat.lt_of_lt_of_le HL1.out hb2.size
  have HX2 := hideIt (HX1.out.below hb2)
  have HWt : Hid (Wt 0 (ws 0 r)) := (HW.out 0 r (by omega) hr).1
  have HER : Hid ((s.hd i).row = (r : Int)) := er
  obtain ⟨rj, erj, hrj, _⟩ := HI.out.tb.row j 2 hlj.1 (by omega) (by omega) hj
  have HEJ : Hid ((s.hd j).row = (rj : Int)) := erj
  have HRL : Hid (Wr ws ∧ r < nR 0) := ⟨HW.out, hr⟩
  clear erj hrj
  obtain ⟨w3, hN⟩ := row_new (w := w2) (t := 0) (T := 101) (Z := Tryz.zeroCells101) (by omega) rfl (by first | rfl | kernel_rfl) (ws 0 r)
  have HN := hideIt hN
  have HB3 := hideIt (Below.thr HB2.out hN.blw)
  have HM3 := hideIt (HM2.out.below hN.blw)
  have HK3 : Hid (Kd w3) := HK2.out.below hN.blw HL2.out
  have HL3 : Hid (1 < w3.heap.size) := Nat.lt_of_lt_of_le HL2.out hN.blw.size
  have HX3 := hideIt (HX2.out.below hN.blw)
  obtain ⟨y0, y1, y2, y3⟩ := HX3.out
  obtain ⟨d, hun, hd⟩ := row_un (t := 0) (by omega)
  have HUN : Hid (Tryz.prog.underlying 101 = some d) := hun
  have HD := hideIt hd
  have HST := hideIt (fun (W1 : World) (hb : Below w3.heap.size w3 W1) => set_at0 (W1 := W1) HM3.out HI.out HW.out HK3.out HL3.out j gg (ws 0 r) HWt.out hb)
  clear hN hun hd hb2 er hr HWt
  generalize rowL 0 (ws 0 r) = row at *
  go_wp2_with (first | (refine wpList_store_mid rfl 101 (.tmp 11) (.tmp 44) rfl w2.heap.size 0 row.toArray rfl rfl HN.out.th (by rw [List.size_toArray]; exact HN.out.sz) (all_oneCell_toArray HN.out.one) ?_; rw [List.toList_toArray, HN.out.eq]))
  go_at_call 91
  refine (TypeOf_walk HM3.out.am j gg).mono ?_
  rintro e w4 ⟨rfl, hb4⟩
  rw [if_pos hlj, hj]
  have HB4 := hideIt (Below.thr HB3.out hb4)
  have HM4 := hideIt (HM3.out.below hb4)
  have HK4 : Hid (Kd w4) := HK3.out.below hb4 HL3.out
  have HX4 := hideIt (HX3.out.below hb4)
  have HT : Hid ((s.hd i).typ = 2) := ht
  have HJ : Hid (Live s j gg ∧ (s.hd j).typ = 2) := ⟨hlj, hj⟩
  have HBW := hideIt (HB4.out.size)
  have HTZ : Hid (∀ b, Tz A rb sb b → b < w.heap.size) := fun b hb => HTZ0.out b hb
  clear hb4 y0 y1 y2 y3 hj hlj ht HST HN HM3 HK3 HL3 HX3 HB3 HM2 HK2 HL2 HX2 HB2 HM1 HK1 HL1 HX1 HB1 HUN HD
  go_wp2_with fail
  go_loopw [13] (fun v13 wr => ∃ (k : Nat) (ws1 : Nat → Nat → Nat → Int), k ≤ 16 ∧ v13 = .int .i64 (k : Int) ∧ CpK ws ws1 r rj k ∧ Ms wr A rb sb s tl ws1 ∧ Wr ws1 ∧ Ext w.heap.size (Tz A rb sb) w wr ∧ Rb w.heap.size i j g gg wr) (fun v _ => 16 - (intOf v).toNat)
  case atStart => exact ⟨0, ws, by omega, rfl, CpK.zero ws r rj, HM4.out, HW.out, Ext.of_below HB4.out _, HX4.out⟩
  case round =>
    obtain ⟨k, ws1, hk, rfl, hck, hm, hw, he, hx⟩ := hrel
    have HCK := hideIt hck
    clear hck
    have HM := hideIt hm
    have HW1 : Hid (Wr ws1) := hw
    have HE := hideIt he
    have HX := hideIt hx
    have HKr : Hid (Kd wr) := HKw.out.extT he HTK.out kl
    have HLr : Hid (1 < wr.heap.size) := Nat.lt_of_lt_of_le kl he.size
    obtain ⟨q0, q1, q2, q3⟩ := hx
    clear hm hw he
    by_cases hlt : k < 16
    · have hlt' : (k : Int) < 16 := by omega
      go_wp2_with fail
      go_at_call 191
      refine (Cell_walk HM.out HI.out HKr.out HLr.out i g hlt).mono ?_
      rintro e w5 ⟨hb5, hh⟩
      rcases hh with ⟨_, _, r', er', hr', rfl⟩ | ⟨hn, _⟩
      rotate_left
      · exact absurd ⟨HLv.out, HT.out⟩ hn
      obtain rfl : r = r' := by have := HER.out; omega
      have hr := hr'
      have er := er'
      clear hr' er'
      obtain ⟨hU, hO⟩ := row_cell (HW1.out 0 r (by omega) hr) hlt
      obtain ⟨w6, hN⟩ := cell_new (w := w5) (U := fun j => ws1 0 r (7 * k + j))
      have hb6 := Below.thr hb5 hN.blw
      have HN := hideIt hN
      have HM6 := hideIt (HM.out.below hb6)
      have HK6 : Hid (Kd w6) := HKr.out.below hb6 HLr.out
      have HL6 : Hid (1 < w6.heap.size) := Nat.lt_of_lt_of_le HLr.out hb6.size
      have HX6 := hideIt (HX.out.below hb6)
      have HE6 := hideIt (HE.out.andThen hb6 HE.out.size)
      have HSC := hideIt (SetCell_walk HM6.out HI.out HW1.out HK6.out HL6.out j gg hlt (fun j => ws1 0 r (7 * k + j)) hU hO)
      obtain ⟨d, hun, hd⟩ := cell_un
      have HUN : Hid (Tryz.prog.underlying 98 = some d) := hun
      have HD := hideIt hd
      obtain ⟨p0, p1, p2, p3⟩ := HX6.out
      clear hb5 hb6 hN hU hO er hr hun hd q0 q1 q2 q3
      generalize cellL (fun j => ws1 0 r (7 * k + j)) 0 = row at *
      go_wp2_with (first | (refine wpList_load_mid rfl 98 (.tmp 14) rfl w5.heap.size 0 rfl row d HN.out.rng HUN.out HD.out HN.out.sz ?_) | (refine wpList_store_mid rfl 98 (.tmp 14) (.tmp 67) rfl w5.heap.size 0 row.toArray rfl rfl HN.out.th (by rw [List.size_toArray]; exact HN.out.sz) (all_oneCell_toArray HN.out.one) ?_; rw [List.toList_toArray, HN.out.eq]))
      go_at_call 192
      refine HSC.out.mono ?_
      rintro e w7 hh
      rcases hh with ⟨hn, _⟩ | ⟨_, _, rfl, r2, er2, hr2, hm7, hw7, he7⟩
      · exact absurd HJ.out hn
      obtain rfl : rj = r2 := by have := HEJ.out; omega
      have HCK7 := hideIt (HCK.out.step)
      clear er2 hr2
      generalize updW ws1 0 rj (putC (ws1 0 rj) k (fun j => ws1 0 r (7 * k + j))) = ws7 at *
      have HM7 := hideIt hm7
      have HW7 : Hid (Wr ws7) := hw7
      have HE7 := hideIt (HE6.out.trans he7 HE6.out.size (fun _ _ q => q))
      have HX7 := hideIt (HX6.out.extT he7 HTZ.out)
      clear hm7 hw7 he7 p0 p1 p2 p3
      go_wp2_with fail
      go_roundw
      case rel => exact ⟨k + 1, ws7, by omega, by go_num, HCK7.out, HM7.out, HW7.out, HE7.out, HX7.out⟩
      case measure => simp [intOf]; omega
    · obtain rfl : k = 16 := by omega
      have HF : Hid (MrPost A rb sb s tl ws (cpyX (ob s ws) i g j gg) w (.returned .nilIface) wr) := by
        have hx := HCK.out.done HI.out HLv.out HT.out HER.out HJ.out.1 HJ.out.2 HEJ.out HRL.out
        exact Or.inr ⟨by rw [hx], rfl, ws1, HM.out, HE.out, HW1.out, by rw [hx]⟩
      go_wp2_with fail
      go_ret
      exact HF.out
end
end Go.Proofs.Qxb6500847aGreatDoor.Os
