/-
  Arena.Equal on any two arenas: the walk.
-/
import Derived.Test.Qxb6500847aGreatDoorEqC
namespace Go.Proofs.Qxb6500847aGreatDoor.Os
open Go.RowKit FloorA
set_option maxRecDepth 100000
section
variable {A A2 : Nat} {rb sb rb2 sb2 : Nat → Nat} {s s2 : Av} {tl tl2 : Nat → List Int} {ws ws2 : Nat → Nat → Nat → Int} {w : World} {L L2 : Nat → List Nat} {n n2 : Nat}
def HdS (s s2 : Av) (i : Nat) : Prop := (s2.hd i).gen = (s.hd i).gen ∧ (s2.hd i).typ = (s.hd i).typ ∧ (s2.hd i).bas = (s.hd i).bas ∧ (s2.hd i).siz = (s.hd i).siz ∧ (s2.hd i).par = (s.hd i).par
theorem not_ob {i : Nat} (hi : i < 320) (h : ¬ HdS s s2 i) : ¬ ob s2 ws2 = ob s ws := fun e => by
  obtain ⟨e1, e2, e3, e4, e5, _⟩ := ob_hd e hi
  exact h ⟨e1, e2, e3, e4, e5⟩
theorem ob_ext (hI : IV s tl L n) (h : ∀ i, i < 320 → HdS s s2 i) (hw : ∀ i, i < 256 → wdsOf (s2.hd i) ws2 = wdsOf (s.hd i) ws) : ob s2 ws2 = ob s ws := by
  funext i
  by_cases hi : i < 320
  · obtain ⟨e1, e2, e3, e4, e5⟩ := h i hi
    rw [ob_at _ _ hi, ob_at _ _ hi, e1, e2, e3, e4, e5]
    have e6 : wdsOf (s2.hd i) ws2 = wdsOf (s.hd i) ws := by
      by_cases q : i < 256
      · exact hw i q
      · have : (s.hd i).typ < 2 := by
          obtain ⟨t, et, t7, tr⟩ := hI.ge.typ i hi
          rw [et]
          by_cases z : t = 0
          · omega
          · have := (tr z).2 (by omega); omega
        unfold wdsOf
        rw [e2, if_pos this, if_pos this]
    rw [e6]
  · rw [ob_out _ _ hi, ob_out _ _ hi]
theorem wds_eq {i t r r2 : Nat} (et : (s.hd i).typ = ((t + 2 : Nat) : Int)) (e2 : (s2.hd i).typ = (s.hd i).typ) (er : (s.hd i).row = (r : Int)) (er2 : (s2.hd i).row = (r2 : Int)) (h : ∀ f, f < nF t → ws t r f = ws2 t r2 f) : wdsOf (s2.hd i) ws2 = wdsOf (s.hd i) ws := by
  unfold wdsOf
  have h2 : ¬ (s.hd i).typ < 2 := by omega
  have h3 : (s.hd i).typ.toNat - 2 = t := by omega
  rw [e2, if_neg h2, if_neg h2, h3, er, er2, Int.toNat_natCast, Int.toNat_natCast]
  unfold wlist
  exact List.map_congr_left (fun f hf => (h f (List.mem_range.1 hf)).symm)
theorem wds_none {i : Nat} (et : (s.hd i).typ < 2) (e2 : (s2.hd i).typ = (s.hd i).typ) : wdsOf (s2.hd i) ws2 = wdsOf (s.hd i) ws := by
  unfold wdsOf
  rw [e2, if_pos et, if_pos et]
def EqP (s s2 : Av) (ws ws2 : Nat → Nat → Nat → Int) (w : World) (e : Ending) (w' : World) : Prop := ∃ q, e = .returned (.bool q) ∧ (q = true ↔ ob s2 ws2 = ob s ws) ∧ Below w.heap.size w w'
theorem EqP.no {w' : World} (h : ¬ ob s2 ws2 = ob s ws) (b : Below w.heap.size w w') : EqP s s2 ws ws2 w (.returned (.bool false)) w' := ⟨false, rfl, ⟨fun q => (by cases q), fun q => absurd q h⟩, b⟩
set_option maxHeartbeats 8000000 in
theorem Equal_any (h : Ms w A rb sb s tl ws) (h2 : Ms w A2 rb2 sb2 s2 tl2 ws2) (hI : IV s tl L n) (hI2 : IV s2 tl2 L2 n2) (hW : Wr ws) (hW2 : Wr ws2) :
    Calls Tryz.prog 31 #[.pointer (some ⟨A, 0, none⟩), .pointer (some ⟨A2, 0, none⟩)] w (EqP s s2 ws ws2 w) := by
  have HM := hideIt h
  have HM2 := hideIt h2
  have HI := hideIt hI
  have HI2 := hideIt hI2
  have HW := hideIt hW
  have HW2 := hideIt hW2
  clear h h2 hI hI2 hW hW2
  go_enter Tryz.func31, Tryz.ntmps31
  go_wp2_with fail
  go_loopw [12] (fun v12 wr => ∃ k : Nat, k ≤ 320 ∧ v12 = .int .i64 (k : Int) ∧ Below w.heap.size w wr ∧ ∀ i, i < k → HdS s s2 i) (fun i _ => 320 - (intOf i).toNat)
  case atStart => exact ⟨0, Nat.zero_le _, rfl, Below.refl _ _, fun i hi => by omega⟩
  case round =>
    obtain ⟨k, hk, rfl, hbr, hhd⟩ := hrel
    have HBR := hideIt hbr
    have HHD := hideIt hhd
    clear hhd
    by_cases hlt : k < 320
    · have hlt' : (k : Int) < 320 := by omega
      have m1 := (HM.out.below hbr).am
      have m2 := (HM2.out.below hbr).am
      have a1 := m1.gen hlt
      have a2 := m1.typ hlt
      have a3 := m1.bas hlt
      have a4 := m1.siz hlt
      have a5 := m1.par hlt
      have b1 := m2.gen hlt
      have b2 := m2.typ hlt
      have b3 := m2.bas hlt
      have b4 := m2.siz hlt
      have b5 := m2.par hlt
      have HNo : Hid (¬ HdS s s2 k → ¬ ob s2 ws2 = ob s ws) := not_ob hlt
      have HYe : Hid (HdS s s2 k → ∀ i, i < k + 1 → HdS s s2 i) := fun q i hi => by
        by_cases z : i = k
        · rw [z]; exact q
        · exact HHD.out i (by omega)
      have HDf : Hid (HdS s s2 k ↔ (s2.hd k).gen = (s.hd k).gen ∧ (s2.hd k).typ = (s.hd k).typ ∧ (s2.hd k).bas = (s.hd k).bas ∧ (s2.hd k).siz = (s.hd k).siz ∧ (s2.hd k).par = (s.hd k).par) := Iff.rfl
      clear m1 m2 hbr
      generalize (s.hd k).gen = x1 at *
      generalize (s.hd k).typ = x2 at *
      generalize (s.hd k).bas = x3 at *
      generalize (s.hd k).siz = x4 at *
      generalize (s.hd k).par = x5 at *
      generalize (s2.hd k).gen = y1 at *
      generalize (s2.hd k).typ = y2 at *
      generalize (s2.hd k).bas = y3 at *
      generalize (s2.hd k).siz = y4 at *
      generalize (s2.hd k).par = y5 at *
      by_cases e1 : y1 = x1
      case neg =>
        have HF := hideIt (HNo.out (fun z => e1 (HDf.out.1 z).1))
        have d1 : (x1 != y1) = true := by rw [bne_iff_ne]; exact fun z => e1 z.symm
        have d2 : (x1 == y1) = false := by rw [beq_eq_false_iff_ne]; exact fun z => e1 z.symm
        clear e1 HDf HYe HNo
        go_wp2_with fail
        go_quiet (fail)
        go_wp2_with fail
        go_quiet (fail)
        go_wp2_with fail
        go_ret
        exact EqP.no HF.out (Below.thr (Below.thr HBR.out (below_dn' _ _)) (below_dn' _ _))
      subst e1
      by_cases e2 : y2 = x2
      case neg =>
        have HF := hideIt (HNo.out (fun z => e2 (HDf.out.1 z).2.1))
        have d1 : (x2 != y2) = true := by rw [bne_iff_ne]; exact fun z => e2 z.symm
        have d2 : (x2 == y2) = false := by rw [beq_eq_false_iff_ne]; exact fun z => e2 z.symm
        clear e2 HDf HYe HNo
        go_wp2_with fail
        go_quiet (fail)
        go_wp2_with fail
        go_quiet (fail)
        go_wp2_with fail
        go_ret
        exact EqP.no HF.out (Below.thr (Below.thr HBR.out (below_dn' _ _)) (below_dn' _ _))
      subst e2
      by_cases e3 : y3 = x3
      case neg =>
        have HF := hideIt (HNo.out (fun z => e3 (HDf.out.1 z).2.2.1))
        have d1 : (x3 != y3) = true := by rw [bne_iff_ne]; exact fun z => e3 z.symm
        have d2 : (x3 == y3) = false := by rw [beq_eq_false_iff_ne]; exact fun z => e3 z.symm
        clear e3 HDf HYe HNo
        go_wp2_with fail
        go_quiet (fail)
        go_wp2_with fail
        go_quiet (fail)
        go_wp2_with fail
        go_ret
        exact EqP.no HF.out (Below.thr (Below.thr HBR.out (below_dn' _ _)) (below_dn' _ _))
      subst e3
      by_cases e4 : y4 = x4
      case neg =>
        have HF := hideIt (HNo.out (fun z => e4 (HDf.out.1 z).2.2.2.1))
        have d1 : (x4 != y4) = true := by rw [bne_iff_ne]; exact fun z => e4 z.symm
        have d2 : (x4 == y4) = false := by rw [beq_eq_false_iff_ne]; exact fun z => e4 z.symm
        clear e4 HDf HYe HNo
        go_wp2_with fail
        go_quiet (fail)
        go_wp2_with fail
        go_quiet (fail)
        go_wp2_with fail
        go_ret
        exact EqP.no HF.out (Below.thr (Below.thr HBR.out (below_dn' _ _)) (below_dn' _ _))
      subst e4
      by_cases e5 : y5 = x5
      case neg =>
        have HF := hideIt (HNo.out (fun z => e5 (HDf.out.1 z).2.2.2.2))
        have d1 : (x5 != y5) = true := by rw [bne_iff_ne]; exact fun z => e5 z.symm
        have d2 : (x5 == y5) = false := by rw [beq_eq_false_iff_ne]; exact fun z => e5 z.symm
        clear e5 HDf HYe HNo
        go_wp2_with fail
        go_quiet (fail)
        go_wp2_with fail
        go_quiet (fail)
        go_wp2_with fail
        go_ret
        exact EqP.no HF.out (Below.thr (Below.thr HBR.out (below_dn' _ _)) (below_dn' _ _))
      subst e5
      have HY := hideIt (HYe.out (HDf.out.2 ⟨rfl, rfl, rfl, rfl, rfl⟩))
      clear HDf HYe HNo
      go_wp2_with fail
      go_quiet (fail)
      go_wp2_with fail
      go_quiet (fail)
      go_wp2_with fail
      go_roundw
      case rel => exact ⟨k + 1, by omega, by go_num, Below.thr HBR.out (below_dn' _ _), HY.out⟩
      case measure => simp [intOf]; omega
    · obtain rfl : k = 320 := by omega
      clear hbr
      go_wp2_with fail
      go_loopw [8] (fun v8 wr => ∃ k : Nat, k ≤ 256 ∧ v8 = .int .i64 (k : Int) ∧ Below w.heap.size w wr ∧ ∀ i, i < k → wdsOf (s2.hd i) ws2 = wdsOf (s.hd i) ws) (fun i _ => 256 - (intOf i).toNat)
      case atStart => exact ⟨0, Nat.zero_le _, rfl, HBR.out, fun i hi => by omega⟩
      case round =>
        obtain ⟨j, hj, rfl, hbr, hwd⟩ := hrel
        have HBS := hideIt hbr
        have HWDS := hideIt hwd
        clear hwd
        by_cases hlj : j < 256
        · have hlj' : (j : Int) < 256 := by omega
          have hl3 : j < 320 := by omega
          have M1 := hideIt (HM.out.below hbr)
          have M2 := hideIt (HM2.out.below hbr)
          obtain ⟨t, et, t7, _⟩ := HI.out.ge.typ j hl3
          have e2 := (HHD.out j hl3).2.1
          have a2 := M1.out.am.typ hl3
          have ar := M1.out.am.rw hl3
          have br := M2.out.am.rw hl3
          rw [et] at a2
          have HN : Hid (wdsOf (s2.hd j) ws2 = wdsOf (s.hd j) ws → ∀ i, i < j + 1 → wdsOf (s2.hd i) ws2 = wdsOf (s.hd i) ws) := fun q i hi => by
            by_cases z : i = j
            · rw [z]; exact q
            · exact HWDS.out i (by omega)
          clear hbr
          by_cases q0 : t = 2
          · subst q0
            obtain ⟨r, er, r1, _⟩ := HI.out.tb.row j 2 hl3 (by omega) (by omega) et
            obtain ⟨r2, er2, r12, _⟩ := HI2.out.tb.row j 2 hl3 (by omega) (by omega) (e2.trans et)
            obtain ⟨qb, heq, hqb⟩ := eq_any0 (ws 0 r) (ws2 0 r2)
            have HT : Hid (qb = true → wdsOf (s2.hd j) ws2 = wdsOf (s.hd j) ws) := fun q => wds_eq (t := 0) et e2 er er2 (hqb q)
            have HF : Hid (qb = false → ¬ ob s2 ws2 = ob s ws) := fun q z => by
              have hrow : rowL 0 (ws2 0 r2) = rowL 0 (ws 0 r) := rowL_congr (by decide) (fun f hf => by have := ob_pay z hl3 (t := 0) et hf; rw [er, er2] at this; exact this)
              have := heq w
              rw [hrow, eq_row0, q] at this
              injection this with this
              cases this
            have H1 := hideIt (M1.out.row 0 (by decide) r r1)
            have H2 := hideIt (M2.out.row 0 (by decide) r2 r12)
            rw [er] at ar
            rw [er2] at br
            have HA1 := hideIt (fun wq (hq : Below wr.heap.size wr wq) => at_walk0 (M1.out.below hq) r1)
            have HA2 := hideIt (fun wq (hq : Below wr.heap.size wr wq) => at_walk0 (M2.out.below hq) r12)
            obtain ⟨d, hu, hd⟩ := row_un (t := 0) (by decide)
            have HLA := hideIt (fun (wd : World) (hd1 : Below wr.heap.size wr wd) (wq : World) (hn : ∃ nn, wq = wd.drewN nn) => (show (loadVar 101 ⟨rb 0, r * nC 0, none⟩).run Tryz.prog wq = .ok (.agg (rowL 0 (ws 0 r)).toArray) wq from by obtain ⟨nn, e⟩ := hn; subst e; exact run_loadVar_mid _ (rb 0) (r * nC 0) 101 _ d (rangeAt_below (rangeAt_below H1.out hd1) (below_dn' _ _)) hu hd (row_sz (t := 0) (by decide) _)))
            have HLB := hideIt (fun (wd : World) (hd1 : Below wr.heap.size wr wd) (wq : World) (hn : ∃ nn, wq = wd.drewN nn) => (show (loadVar 101 ⟨rb2 0, r2 * nC 0, none⟩).run Tryz.prog wq = .ok (.agg (rowL 0 (ws2 0 r2)).toArray) wq from by obtain ⟨nn, e⟩ := hn; subst e; exact run_loadVar_mid _ (rb2 0) (r2 * nC 0) 101 _ d (rangeAt_below (rangeAt_below H2.out hd1) (below_dn' _ _)) hu hd (row_sz (t := 0) (by decide) _)))
            have hgt : (Tryz.prog).eqGuardType (Tryz.prog).depth 101 = false := by kernel_rfl
            have HEQ := hideIt heq
            have HGT := hideIt hgt
            clear heq hgt H1 H2 hqb
            clear e2 hu hd er er2 r1 r12
            generalize (rowL 0 (ws 0 r)).toArray = row at *
            generalize (rowL 0 (ws2 0 r2)).toArray = row2 at *
            go_wp2_with fail
            go_quiet (fail)
            have HWD := hideIt (below_dn' wr nq)
            have a2d := (show (wr.drewN nq).cell? ⟨A, j * 8 + 1, none⟩ = _ from a2)
            have ard := (show (wr.drewN nq).cell? ⟨A, j * 8 + 2, none⟩ = _ from ar)
            have brd := (show (wr.drewN nq).cell? ⟨A2, j * 8 + 2, none⟩ = _ from br)
            have HL1 := hideIt (HLA.out (wr.drewN nq) HWD.out)
            have HL2 := hideIt (HLB.out (wr.drewN nq) HWD.out)
            clear a2 ar br HLA HLB
            generalize wr.drewN nq = wd at *
            go_wp2_with fail
            refine rega0 ard brd (fun wq hq => HA1.out wq (Below.thr HWD.out hq)) (fun wq hq => HA2.out wq (Below.thr HWD.out hq)) HL1.out HL2.out HGT.out HEQ.out ?_
            intro x99 x100 x101 x102 x103 x104 x105 x106 x107 x108 x109 x110 x111 x112 x113 x114 x115 x116 x117 x118 x119 nq2
            clear HEQ HL1 HL2 HA1 HA2
            cases qb
            · have HFF := hideIt (HF.out rfl)
              clear HF HT
              go_wp2_with fail
              go_ret
              exact EqP.no HFF.out (Below.thr HBS.out (Below.thr HWD.out (below_dn' _ _)))
            · have HTT := hideIt (HN.out (HT.out rfl))
              clear HF HT
              go_wp2_with fail
              go_roundw
              case rel => exact ⟨j + 1, by omega, by go_num, Below.thr HBS.out (Below.thr HWD.out (below_dn' _ _)), HTT.out⟩
              case measure => simp [intOf]; omega
          by_cases q1 : t = 3
          · subst q1
            obtain ⟨r, er, r1, _⟩ := HI.out.tb.row j 3 hl3 (by omega) (by omega) et
            obtain ⟨r2, er2, r12, _⟩ := HI2.out.tb.row j 3 hl3 (by omega) (by omega) (e2.trans et)
            obtain ⟨qb, heq, hqb⟩ := eq_any1 (ws 1 r) (ws2 1 r2)
            have HT : Hid (qb = true → wdsOf (s2.hd j) ws2 = wdsOf (s.hd j) ws) := fun q => wds_eq (t := 1) et e2 er er2 (hqb q)
            have HF : Hid (qb = false → ¬ ob s2 ws2 = ob s ws) := fun q z => by
              have hrow : rowL 1 (ws2 1 r2) = rowL 1 (ws 1 r) := rowL_congr (by decide) (fun f hf => by have := ob_pay z hl3 (t := 1) et hf; rw [er, er2] at this; exact this)
              have := heq w
              rw [hrow, eq_row1, q] at this
              injection this with this
              cases this
            have H1 := hideIt (M1.out.row 1 (by decide) r r1)
            have H2 := hideIt (M2.out.row 1 (by decide) r2 r12)
            rw [er] at ar
            rw [er2] at br
            have HA1 := hideIt (fun wq (hq : Below wr.heap.size wr wq) => at_walk1 (M1.out.below hq) r1)
            have HA2 := hideIt (fun wq (hq : Below wr.heap.size wr wq) => at_walk1 (M2.out.below hq) r12)
            obtain ⟨d, hu, hd⟩ := row_un (t := 1) (by decide)
            have HLA := hideIt (fun (wd : World) (hd1 : Below wr.heap.size wr wd) (wq : World) (hn : ∃ nn, wq = wd.drewN nn) => (show (loadVar 109 ⟨rb 1, r * nC 1, none⟩).run Tryz.prog wq = .ok (.agg (rowL 1 (ws 1 r)).toArray) wq from by obtain ⟨nn, e⟩ := hn; subst e; exact run_loadVar_mid _ (rb 1) (r * nC 1) 109 _ d (rangeAt_below (rangeAt_below H1.out hd1) (below_dn' _ _)) hu hd (row_sz (t := 1) (by decide) _)))
            have HLB := hideIt (fun (wd : World) (hd1 : Below wr.heap.size wr wd) (wq : World) (hn : ∃ nn, wq = wd.drewN nn) => (show (loadVar 109 ⟨rb2 1, r2 * nC 1, none⟩).run Tryz.prog wq = .ok (.agg (rowL 1 (ws2 1 r2)).toArray) wq from by obtain ⟨nn, e⟩ := hn; subst e; exact run_loadVar_mid _ (rb2 1) (r2 * nC 1) 109 _ d (rangeAt_below (rangeAt_below H2.out hd1) (below_dn' _ _)) hu hd (row_sz (t := 1) (by decide) _)))
            have hgt : (Tryz.prog).eqGuardType (Tryz.prog).depth 109 = false := by kernel_rfl
            have HEQ := hideIt heq
            have HGT := hideIt hgt
            clear heq hgt H1 H2 hqb
            clear e2 hu hd er er2 r1 r12
            generalize (rowL 1 (ws 1 r)).toArray = row at *
            generalize (rowL 1 (ws2 1 r2)).toArray = row2 at *
            go_wp2_with fail
            go_quiet (fail)
            have HWD := hideIt (below_dn' wr nq)
            have a2d := (show (wr.drewN nq).cell? ⟨A, j * 8 + 1, none⟩ = _ from a2)
            have ard := (show (wr.drewN nq).cell? ⟨A, j * 8 + 2, none⟩ = _ from ar)
            have brd := (show (wr.drewN nq).cell? ⟨A2, j * 8 + 2, none⟩ = _ from br)
            have HL1 := hideIt (HLA.out (wr.drewN nq) HWD.out)
            have HL2 := hideIt (HLB.out (wr.drewN nq) HWD.out)
            clear a2 ar br HLA HLB
            generalize wr.drewN nq = wd at *
            go_wp2_with fail
            refine rega1 ard brd (fun wq hq => HA1.out wq (Below.thr HWD.out hq)) (fun wq hq => HA2.out wq (Below.thr HWD.out hq)) HL1.out HL2.out HGT.out HEQ.out ?_
            intro x122 x123 x124 x125 x126 x127 x128 x129 x130 x131 x132 x133 x134 x135 x136 x137 x138 x139 x140 x141 x142 nq2
            clear HEQ HL1 HL2 HA1 HA2
            cases qb
            · have HFF := hideIt (HF.out rfl)
              clear HF HT
              go_wp2_with fail
              go_ret
              exact EqP.no HFF.out (Below.thr HBS.out (Below.thr HWD.out (below_dn' _ _)))
            · have HTT := hideIt (HN.out (HT.out rfl))
              clear HF HT
              go_wp2_with fail
              go_roundw
              case rel => exact ⟨j + 1, by omega, by go_num, Below.thr HBS.out (Below.thr HWD.out (below_dn' _ _)), HTT.out⟩
              case measure => simp [intOf]; omega
          by_cases q2 : t = 4
          · subst q2
            obtain ⟨r, er, r1, _⟩ := HI.out.tb.row j 4 hl3 (by omega) (by omega) et
            obtain ⟨r2, er2, r12, _⟩ := HI2.out.tb.row j 4 hl3 (by omega) (by omega) (e2.trans et)
            obtain ⟨qb, heq, hqb⟩ := eq_any2 (ws 2 r) (ws2 2 r2)
            have HT : Hid (qb = true → wdsOf (s2.hd j) ws2 = wdsOf (s.hd j) ws) := fun q => wds_eq (t := 2) et e2 er er2 (hqb q)
            have HF : Hid (qb = false → ¬ ob s2 ws2 = ob s ws) := fun q z => by
              have hrow : rowL 2 (ws2 2 r2) = rowL 2 (ws 2 r) := rowL_congr (by decide) (fun f hf => by have := ob_pay z hl3 (t := 2) et hf; rw [er, er2] at this; exact this)
              have := heq w
              rw [hrow, eq_row2, q] at this
              injection this with this
              cases this
            have H1 := hideIt (M1.out.row 2 (by decide) r r1)
            have H2 := hideIt (M2.out.row 2 (by decide) r2 r12)
            rw [er] at ar
            rw [er2] at br
            have HA1 := hideIt (fun wq (hq : Below wr.heap.size wr wq) => at_walk2 (M1.out.below hq) r1)
            have HA2 := hideIt (fun wq (hq : Below wr.heap.size wr wq) => at_walk2 (M2.out.below hq) r12)
            obtain ⟨d, hu, hd⟩ := row_un (t := 2) (by decide)
            have HLA := hideIt (fun (wd : World) (hd1 : Below wr.heap.size wr wd) (wq : World) (hn : ∃ nn, wq = wd.drewN nn) => (show (loadVar 115 ⟨rb 2, r * nC 2, none⟩).run Tryz.prog wq = .ok (.agg (rowL 2 (ws 2 r)).toArray) wq from by obtain ⟨nn, e⟩ := hn; subst e; exact run_loadVar_mid _ (rb 2) (r * nC 2) 115 _ d (rangeAt_below (rangeAt_below H1.out hd1) (below_dn' _ _)) hu hd (row_sz (t := 2) (by decide) _)))
            have HLB := hideIt (fun (wd : World) (hd1 : Below wr.heap.size wr wd) (wq : World) (hn : ∃ nn, wq = wd.drewN nn) => (show (loadVar 115 ⟨rb2 2, r2 * nC 2, none⟩).run Tryz.prog wq = .ok (.agg (rowL 2 (ws2 2 r2)).toArray) wq from by obtain ⟨nn, e⟩ := hn; subst e; exact run_loadVar_mid _ (rb2 2) (r2 * nC 2) 115 _ d (rangeAt_below (rangeAt_below H2.out hd1) (below_dn' _ _)) hu hd (row_sz (t := 2) (by decide) _)))
            have hgt : (Tryz.prog).eqGuardType (Tryz.prog).depth 115 = false := by kernel_rfl
            have HEQ := hideIt heq
            have HGT := hideIt hgt
            clear heq hgt H1 H2 hqb
            clear e2 hu hd er er2 r1 r12
            generalize (rowL 2 (ws 2 r)).toArray = row at *
            generalize (rowL 2 (ws2 2 r2)).toArray = row2 at *
            go_wp2_with fail
            go_quiet (fail)
            have HWD := hideIt (below_dn' wr nq)
            have a2d := (show (wr.drewN nq).cell? ⟨A, j * 8 + 1, none⟩ = _ from a2)
            have ard := (show (wr.drewN nq).cell? ⟨A, j * 8 + 2, none⟩ = _ from ar)
            have brd := (show (wr.drewN nq).cell? ⟨A2, j * 8 + 2, none⟩ = _ from br)
            have HL1 := hideIt (HLA.out (wr.drewN nq) HWD.out)
            have HL2 := hideIt (HLB.out (wr.drewN nq) HWD.out)
            clear a2 ar br HLA HLB
            generalize wr.drewN nq = wd at *
            go_wp2_with fail
            refine rega2 ard brd (fun wq hq => HA1.out wq (Below.thr HWD.out hq)) (fun wq hq => HA2.out wq (Below.thr HWD.out hq)) HL1.out HL2.out HGT.out HEQ.out ?_
            intro x145 x146 x147 x148 x149 x150 x151 x152 x153 x154 x155 x156 x157 x158 x159 x160 x161 x162 x163 x164 x165 nq2
            clear HEQ HL1 HL2 HA1 HA2
            cases qb
            · have HFF := hideIt (HF.out rfl)
              clear HF HT
              go_wp2_with fail
              go_ret
              exact EqP.no HFF.out (Below.thr HBS.out (Below.thr HWD.out (below_dn' _ _)))
            · have HTT := hideIt (HN.out (HT.out rfl))
              clear HF HT
              go_wp2_with fail
              go_roundw
              case rel => exact ⟨j + 1, by omega, by go_num, Below.thr HBS.out (Below.thr HWD.out (below_dn' _ _)), HTT.out⟩
              case measure => simp [intOf]; omega
          by_cases q3 : t = 5
          · subst q3
            obtain ⟨r, er, r1, _⟩ := HI.out.tb.row j 5 hl3 (by omega) (by omega) et
            obtain ⟨r2, er2, r12, _⟩ := HI2.out.tb.row j 5 hl3 (by omega) (by omega) (e2.trans et)
            obtain ⟨qb, heq, hqb⟩ := eq_any3 (ws 3 r) (ws2 3 r2)
            have HT : Hid (qb = true → wdsOf (s2.hd j) ws2 = wdsOf (s.hd j) ws) := fun q => wds_eq (t := 3) et e2 er er2 (hqb q)
            have HF : Hid (qb = false → ¬ ob s2 ws2 = ob s ws) := fun q z => by
              have hrow : rowL 3 (ws2 3 r2) = rowL 3 (ws 3 r) := rowL_congr (by decide) (fun f hf => by have := ob_pay z hl3 (t := 3) et hf; rw [er, er2] at this; exact this)
              have := heq w
              rw [hrow, eq_row3, q] at this
              injection this with this
              cases this
            have H1 := hideIt (M1.out.row 3 (by decide) r r1)
            have H2 := hideIt (M2.out.row 3 (by decide) r2 r12)
            rw [er] at ar
            rw [er2] at br
            have HA1 := hideIt (fun wq (hq : Below wr.heap.size wr wq) => at_walk3 (M1.out.below hq) r1)
            have HA2 := hideIt (fun wq (hq : Below wr.heap.size wr wq) => at_walk3 (M2.out.below hq) r12)
            obtain ⟨d, hu, hd⟩ := row_un (t := 3) (by decide)
            have HLA := hideIt (fun (wd : World) (hd1 : Below wr.heap.size wr wd) (wq : World) (hn : ∃ nn, wq = wd.drewN nn) => (show (loadVar 121 ⟨rb 3, r * nC 3, none⟩).run Tryz.prog wq = .ok (.agg (rowL 3 (ws 3 r)).toArray) wq from by obtain ⟨nn, e⟩ := hn; subst e; exact run_loadVar_mid _ (rb 3) (r * nC 3) 121 _ d (rangeAt_below (rangeAt_below H1.out hd1) (below_dn' _ _)) hu hd (row_sz (t := 3) (by decide) _)))
            have HLB := hideIt (fun (wd : World) (hd1 : Below wr.heap.size wr wd) (wq : World) (hn : ∃ nn, wq = wd.drewN nn) => (show (loadVar 121 ⟨rb2 3, r2 * nC 3, none⟩).run Tryz.prog wq = .ok (.agg (rowL 3 (ws2 3 r2)).toArray) wq from by obtain ⟨nn, e⟩ := hn; subst e; exact run_loadVar_mid _ (rb2 3) (r2 * nC 3) 121 _ d (rangeAt_below (rangeAt_below H2.out hd1) (below_dn' _ _)) hu hd (row_sz (t := 3) (by decide) _)))
            have hgt : (Tryz.prog).eqGuardType (Tryz.prog).depth 121 = false := by kernel_rfl
            have HEQ := hideIt heq
            have HGT := hideIt hgt
            clear heq hgt H1 H2 hqb
            clear e2 hu hd er er2 r1 r12
            generalize (rowL 3 (ws 3 r)).toArray = row at *
            generalize (rowL 3 (ws2 3 r2)).toArray = row2 at *
            go_wp2_with fail
            go_quiet (fail)
            have HWD := hideIt (below_dn' wr nq)
            have a2d := (show (wr.drewN nq).cell? ⟨A, j * 8 + 1, none⟩ = _ from a2)
            have ard := (show (wr.drewN nq).cell? ⟨A, j * 8 + 2, none⟩ = _ from ar)
            have brd := (show (wr.drewN nq).cell? ⟨A2, j * 8 + 2, none⟩ = _ from br)
            have HL1 := hideIt (HLA.out (wr.drewN nq) HWD.out)
            have HL2 := hideIt (HLB.out (wr.drewN nq) HWD.out)
            clear a2 ar br HLA HLB
            generalize wr.drewN nq = wd at *
            go_wp2_with fail
            refine rega3 ard brd (fun wq hq => HA1.out wq (Below.thr HWD.out hq)) (fun wq hq => HA2.out wq (Below.thr HWD.out hq)) HL1.out HL2.out HGT.out HEQ.out ?_
            intro x168 x169 x170 x171 x172 x173 x174 x175 x176 x177 x178 x179 x180 x181 x182 x183 x184 x185 x186 x187 x188 nq2
            clear HEQ HL1 HL2 HA1 HA2
            cases qb
            · have HFF := hideIt (HF.out rfl)
              clear HF HT
              go_wp2_with fail
              go_ret
              exact EqP.no HFF.out (Below.thr HBS.out (Below.thr HWD.out (below_dn' _ _)))
            · have HTT := hideIt (HN.out (HT.out rfl))
              clear HF HT
              go_wp2_with fail
              go_roundw
              case rel => exact ⟨j + 1, by omega, by go_num, Below.thr HBS.out (Below.thr HWD.out (below_dn' _ _)), HTT.out⟩
              case measure => simp [intOf]; omega
          by_cases q4 : t = 6
          · subst q4
            obtain ⟨r, er, r1, _⟩ := HI.out.tb.row j 6 hl3 (by omega) (by omega) et
            obtain ⟨r2, er2, r12, _⟩ := HI2.out.tb.row j 6 hl3 (by omega) (by omega) (e2.trans et)
            obtain ⟨qb, heq, hqb⟩ := eq_any4 (ws 4 r) (ws2 4 r2) (HW.out 4 r (by decide) r1) (HW2.out 4 r2 (by decide) r12)
            have HT : Hid (qb = true → wdsOf (s2.hd j) ws2 = wdsOf (s.hd j) ws) := fun q => wds_eq (t := 4) et e2 er er2 (hqb q)
            have HF : Hid (qb = false → ¬ ob s2 ws2 = ob s ws) := fun q z => by
              have hrow : rowL 4 (ws2 4 r2) = rowL 4 (ws 4 r) := rowL_congr (by decide) (fun f hf => by have := ob_pay z hl3 (t := 4) et hf; rw [er, er2] at this; exact this)
              have := heq w
              rw [hrow, eq_row4, q] at this
              injection this with this
              cases this
            have H1 := hideIt (M1.out.row 4 (by decide) r r1)
            have H2 := hideIt (M2.out.row 4 (by decide) r2 r12)
            rw [er] at ar
            rw [er2] at br
            have HA1 := hideIt (fun wq (hq : Below wr.heap.size wr wq) => at_walk4 (M1.out.below hq) r1)
            have HA2 := hideIt (fun wq (hq : Below wr.heap.size wr wq) => at_walk4 (M2.out.below hq) r12)
            obtain ⟨d, hu, hd⟩ := row_un (t := 4) (by decide)
            have HLA := hideIt (fun (wd : World) (hd1 : Below wr.heap.size wr wd) (wq : World) (hn : ∃ nn, wq = wd.drewN nn) => (show (loadVar 127 ⟨rb 4, r * nC 4, none⟩).run Tryz.prog wq = .ok (.agg (rowL 4 (ws 4 r)).toArray) wq from by obtain ⟨nn, e⟩ := hn; subst e; exact run_loadVar_mid _ (rb 4) (r * nC 4) 127 _ d (rangeAt_below (rangeAt_below H1.out hd1) (below_dn' _ _)) hu hd (row_sz (t := 4) (by decide) _)))
            have HLB := hideIt (fun (wd : World) (hd1 : Below wr.heap.size wr wd) (wq : World) (hn : ∃ nn, wq = wd.drewN nn) => (show (loadVar 127 ⟨rb2 4, r2 * nC 4, none⟩).run Tryz.prog wq = .ok (.agg (rowL 4 (ws2 4 r2)).toArray) wq from by obtain ⟨nn, e⟩ := hn; subst e; exact run_loadVar_mid _ (rb2 4) (r2 * nC 4) 127 _ d (rangeAt_below (rangeAt_below H2.out hd1) (below_dn' _ _)) hu hd (row_sz (t := 4) (by decide) _)))
            have hgt : (Tryz.prog).eqGuardType (Tryz.prog).depth 127 = false := by kernel_rfl
            have HEQ := hideIt heq
            have HGT := hideIt hgt
            clear heq hgt H1 H2 hqb
            clear e2 hu hd er er2 r1 r12
            generalize (rowL 4 (ws 4 r)).toArray = row at *
            generalize (rowL 4 (ws2 4 r2)).toArray = row2 at *
            go_wp2_with fail
            go_quiet (fail)
            have HWD := hideIt (below_dn' wr nq)
            have a2d := (show (wr.drewN nq).cell? ⟨A, j * 8 + 1, none⟩ = _ from a2)
            have ard := (show (wr.drewN nq).cell? ⟨A, j * 8 + 2, none⟩ = _ from ar)
            have brd := (show (wr.drewN nq).cell? ⟨A2, j * 8 + 2, none⟩ = _ from br)
            have HL1 := hideIt (HLA.out (wr.drewN nq) HWD.out)
            have HL2 := hideIt (HLB.out (wr.drewN nq) HWD.out)
            clear a2 ar br HLA HLB
            generalize wr.drewN nq = wd at *
            go_wp2_with fail
            refine rega4 ard brd (fun wq hq => HA1.out wq (Below.thr HWD.out hq)) (fun wq hq => HA2.out wq (Below.thr HWD.out hq)) HL1.out HL2.out HGT.out HEQ.out ?_
            intro x191 x192 x193 x194 x195 x196 x197 x198 x199 x200 x201 x202 x203 x204 x205 x206 x207 x208 x209 x210 x211 nq2
            clear HEQ HL1 HL2 HA1 HA2
            cases qb
            · have HFF := hideIt (HF.out rfl)
              clear HF HT
              go_wp2_with fail
              go_ret
              exact EqP.no HFF.out (Below.thr HBS.out (Below.thr HWD.out (below_dn' _ _)))
            · have HTT := hideIt (HN.out (HT.out rfl))
              clear HF HT
              go_wp2_with fail
              go_roundw
              case rel => exact ⟨j + 1, by omega, by go_num, Below.thr HBS.out (Below.thr HWD.out (below_dn' _ _)), HTT.out⟩
              case measure => simp [intOf]; omega
          by_cases q5 : t = 7
          · subst q5
            obtain ⟨r, er, r1, _⟩ := HI.out.tb.row j 7 hl3 (by omega) (by omega) et
            obtain ⟨r2, er2, r12, _⟩ := HI2.out.tb.row j 7 hl3 (by omega) (by omega) (e2.trans et)
            obtain ⟨qb, heq, hqb⟩ := eq_any5 (ws 5 r) (ws2 5 r2) (HW.out 5 r (by decide) r1) (HW2.out 5 r2 (by decide) r12)
            have HT : Hid (qb = true → wdsOf (s2.hd j) ws2 = wdsOf (s.hd j) ws) := fun q => wds_eq (t := 5) et e2 er er2 (hqb q)
            have HF : Hid (qb = false → ¬ ob s2 ws2 = ob s ws) := fun q z => by
              have hrow : rowL 5 (ws2 5 r2) = rowL 5 (ws 5 r) := rowL_congr (by decide) (fun f hf => by have := ob_pay z hl3 (t := 5) et hf; rw [er, er2] at this; exact this)
              have := heq w
              rw [hrow, eq_row5, q] at this
              injection this with this
              cases this
            have H1 := hideIt (M1.out.row 5 (by decide) r r1)
            have H2 := hideIt (M2.out.row 5 (by decide) r2 r12)
            rw [er] at ar
            rw [er2] at br
            have HA1 := hideIt (fun wq (hq : Below wr.heap.size wr wq) => at_walk5 (M1.out.below hq) r1)
            have HA2 := hideIt (fun wq (hq : Below wr.heap.size wr wq) => at_walk5 (M2.out.below hq) r12)
            obtain ⟨d, hu, hd⟩ := row_un (t := 5) (by decide)
            have HLA := hideIt (fun (wd : World) (hd1 : Below wr.heap.size wr wd) (wq : World) (hn : ∃ nn, wq = wd.drewN nn) => (show (loadVar 133 ⟨rb 5, r * nC 5, none⟩).run Tryz.prog wq = .ok (.agg (rowL 5 (ws 5 r)).toArray) wq from by obtain ⟨nn, e⟩ := hn; subst e; exact run_loadVar_mid _ (rb 5) (r * nC 5) 133 _ d (rangeAt_below (rangeAt_below H1.out hd1) (below_dn' _ _)) hu hd (row_sz (t := 5) (by decide) _)))
            have HLB := hideIt (fun (wd : World) (hd1 : Below wr.heap.size wr wd) (wq : World) (hn : ∃ nn, wq = wd.drewN nn) => (show (loadVar 133 ⟨rb2 5, r2 * nC 5, none⟩).run Tryz.prog wq = .ok (.agg (rowL 5 (ws2 5 r2)).toArray) wq from by obtain ⟨nn, e⟩ := hn; subst e; exact run_loadVar_mid _ (rb2 5) (r2 * nC 5) 133 _ d (rangeAt_below (rangeAt_below H2.out hd1) (below_dn' _ _)) hu hd (row_sz (t := 5) (by decide) _)))
            have hgt : (Tryz.prog).eqGuardType (Tryz.prog).depth 133 = false := by kernel_rfl
            have HEQ := hideIt heq
            have HGT := hideIt hgt
            clear heq hgt H1 H2 hqb
            clear e2 hu hd er er2 r1 r12
            generalize (rowL 5 (ws 5 r)).toArray = row at *
            generalize (rowL 5 (ws2 5 r2)).toArray = row2 at *
            go_wp2_with fail
            go_quiet (fail)
            have HWD := hideIt (below_dn' wr nq)
            have a2d := (show (wr.drewN nq).cell? ⟨A, j * 8 + 1, none⟩ = _ from a2)
            have ard := (show (wr.drewN nq).cell? ⟨A, j * 8 + 2, none⟩ = _ from ar)
            have brd := (show (wr.drewN nq).cell? ⟨A2, j * 8 + 2, none⟩ = _ from br)
            have HL1 := hideIt (HLA.out (wr.drewN nq) HWD.out)
            have HL2 := hideIt (HLB.out (wr.drewN nq) HWD.out)
            clear a2 ar br HLA HLB
            generalize wr.drewN nq = wd at *
            go_wp2_with fail
            refine rega5 ard brd (fun wq hq => HA1.out wq (Below.thr HWD.out hq)) (fun wq hq => HA2.out wq (Below.thr HWD.out hq)) HL1.out HL2.out HGT.out HEQ.out ?_
            intro x214 x215 x216 x217 x218 x219 x220 x221 x222 x223 x224 x225 x226 x227 x228 x229 x230 x231 x232 x233 x234 nq2
            clear HEQ HL1 HL2 HA1 HA2
            cases qb
            · have HFF := hideIt (HF.out rfl)
              clear HF HT
              go_wp2_with fail
              go_ret
              exact EqP.no HFF.out (Below.thr HBS.out (Below.thr HWD.out (below_dn' _ _)))
            · have HTT := hideIt (HN.out (HT.out rfl))
              clear HF HT
              go_wp2_with fail
              go_roundw
              case rel => exact ⟨j + 1, by omega, by go_num, Below.thr HBS.out (Below.thr HWD.out (below_dn' _ _)), HTT.out⟩
              case measure => simp [intOf]; omega
          have k1 : ((t : Int) == 2) = false := by rw [beq_eq_false_iff_ne]; omega
          have k2 : ((t : Int) == 3) = false := by rw [beq_eq_false_iff_ne]; omega
          have k3 : ((t : Int) == 4) = false := by rw [beq_eq_false_iff_ne]; omega
          have k4 : ((t : Int) == 5) = false := by rw [beq_eq_false_iff_ne]; omega
          have k5 : ((t : Int) == 6) = false := by rw [beq_eq_false_iff_ne]; omega
          have k6 : ((t : Int) == 7) = false := by rw [beq_eq_false_iff_ne]; omega
          have HTT := hideIt (HN.out (wds_none (by rw [et]; omega) e2))
          clear e2
          go_wp2_with fail
          go_quiet (fail)
          go_wp2_with fail
          go_roundw
          case rel => exact ⟨j + 1, by omega, by go_num, Below.thr HBS.out (below_dn' _ _), HTT.out⟩
          case measure => simp [intOf]; omega
        · obtain rfl : j = 256 := by omega
          clear hbr
          go_wp2_with fail
          go_ret
          exact ⟨true, rfl, ⟨fun _ => ob_ext HI.out HHD.out HWDS.out, fun _ => rfl⟩, HBS.out⟩
end
end Go.Proofs.Qxb6500847aGreatDoor.Os
