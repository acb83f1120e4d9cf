/-
  Arena.Equal on two arenas that are observed alike: the walk.
-/
import Derived.Test.Qxb6500847aGreatDoorOxEk
namespace Go.Proofs.Qxb6500847aGreatDoor.Os
open Go.RowKit FloorA
set_option maxRecDepth 100000
section
variable {A A2 : Nat} {rb sb rb2 sb2 : Nat → Nat} {s s2 : Av} {tl tl2 : Nat → List Int} {ws ws2 : Nat → Nat → Nat → Int} {w : World} {L L2 : Nat → List Nat} {n n2 : Nat}
set_option maxHeartbeats 8000000 in
theorem Equal_x (h : Ms w A rb sb s tl ws) (h2 : Ms w A2 rb2 sb2 s2 tl2 ws2) (hI : IV s tl L n) (hI2 : IV s2 tl2 L2 n2) (ho : ob s2 ws2 = ob s ws) :
    Calls Tryz.prog 31 #[.pointer (some ⟨A, 0, none⟩), .pointer (some ⟨A2, 0, none⟩)] w fun e w' => e = .returned (.bool true) ∧ Below w.heap.size w w' := by
  have HM := hideIt h
  have HM2 := hideIt h2
  have HI := hideIt hI
  have HI2 := hideIt hI2
  have HO : Hid (ob s2 ws2 = ob s ws) := ho
  clear h h2 hI hI2 ho
  go_enter Tryz.func31, Tryz.ntmps31
  go_wp2_with fail
  go_loopw [12] (fun v12 wr => ∃ k : Nat, k ≤ 320 ∧ v12 = .int .i64 (k : Int) ∧ Below w.heap.size w wr) (fun i _ => 320 - (intOf i).toNat)
  case atStart => exact ⟨0, Nat.zero_le _, rfl, Below.refl _ _⟩
  case round =>
    obtain ⟨k, hk, rfl, hbr⟩ := hrel
    have HBR := hideIt hbr
    by_cases hlt : k < 320
    · have hlt' : (k : Int) < 320 := by omega
      have m1 := (HM.out.below hbr).am
      have m2 := (HM2.out.below hbr).am
      obtain ⟨e1, e2, e3, e4, e5, _⟩ := ob_hd HO.out hlt
      have a1 := m1.gen hlt
      have a2 := m1.typ hlt
      have a3 := m1.bas hlt
      have a4 := m1.siz hlt
      have a5 := m1.par hlt
      have b1 := m2.gen hlt
      have b2 := m2.typ hlt
      have b3 := m2.bas hlt
      have b4 := m2.siz hlt
      have b5 := m2.par hlt
      rw [e1] at b1
      rw [e2] at b2
      rw [e3] at b3
      rw [e4] at b4
      rw [e5] at b5
      clear e1 e2 e3 e4 e5 m1 m2 hbr
      go_wp2_with fail
      go_quiet (fail)
      go_wp2_with fail
      go_quiet (fail)
      go_wp2_with fail
      go_roundw
      case rel => exact ⟨k + 1, by omega, by go_num, Below.thr HBR.out (below_dn' _ _)⟩
      case measure => simp [intOf]; omega
    · have hk3 : (k : Int) = 320 := by omega
      rw [hk3]
      clear hbr
      go_wp2_with fail
      go_loopw [8] (fun v8 wr => ∃ k : Nat, k ≤ 256 ∧ v8 = .int .i64 (k : Int) ∧ Below w.heap.size w wr) (fun i _ => 256 - (intOf i).toNat)
      case atStart => exact ⟨0, Nat.zero_le _, rfl, HBR.out⟩
      case round =>
        obtain ⟨j, hj, rfl, hbr⟩ := hrel
        have HBS := hideIt hbr
        by_cases hlj : j < 256
        · have hlj' : (j : Int) < 256 := by omega
          have hl3 : j < 320 := by omega
          have M1 := hideIt (HM.out.below hbr)
          have M2 := hideIt (HM2.out.below hbr)
          obtain ⟨t, et, t7, _⟩ := HI.out.ge.typ j hl3
          have e2 := (ob_hd HO.out hl3).2.1
          have a2 := M1.out.am.typ hl3
          have ar := M1.out.am.rw hl3
          have br := M2.out.am.rw hl3
          rw [et] at a2
          clear hbr
          by_cases q0 : t = 2
          · subst q0
            obtain ⟨r, er, r1, _⟩ := HI.out.tb.row j 2 hl3 (by omega) (by omega) et
            obtain ⟨r2, er2, r12, _⟩ := HI2.out.tb.row j 2 hl3 (by omega) (by omega) (e2.trans et)
            have hrow : rowL 0 (ws2 0 r2) = rowL 0 (ws 0 r) := rowL_congr (by decide) (fun f hf => by have := ob_pay HO.out hl3 (t := 0) et hf; rw [er, er2] at this; exact this)
            have H1 := hideIt (M1.out.row 0 (by decide) r r1)
            have H2 : Hid (wr.rangeAt (rb2 0) (r2 * nC 0) (rowL 0 (ws 0 r))) := by show World.rangeAt _ _ _ _; rw [← hrow]; exact M2.out.row 0 (by decide) r2 r12
            rw [er] at ar
            rw [er2] at br
            have HA1 := hideIt (fun wq (hq : Below wr.heap.size wr wq) => at_walk0 (M1.out.below hq) r1)
            have HA2 := hideIt (fun wq (hq : Below wr.heap.size wr wq) => at_walk0 (M2.out.below hq) r12)
            have heq := eq_row0 (ws 0 r)
            obtain ⟨d, hu, hd⟩ := row_un (t := 0) (by decide)
            have HLA := hideIt (fun (wd : World) (hd1 : Below wr.heap.size wr wd) (wq : World) (hn : ∃ nn, wq = wd.drewN nn) => (show (loadVar 101 ⟨rb 0, r * nC 0, none⟩).run Tryz.prog wq = .ok (.agg (rowL 0 (ws 0 r)).toArray) wq from by obtain ⟨nn, e⟩ := hn; subst e; exact run_loadVar_mid _ (rb 0) (r * nC 0) 101 _ d (rangeAt_below (rangeAt_below H1.out hd1) (below_dn' _ _)) hu hd (row_sz (t := 0) (by decide) _)))
            have HLB := hideIt (fun (wd : World) (hd1 : Below wr.heap.size wr wd) (wq : World) (hn : ∃ nn, wq = wd.drewN nn) => (show (loadVar 101 ⟨rb2 0, r2 * nC 0, none⟩).run Tryz.prog wq = .ok (.agg (rowL 0 (ws 0 r)).toArray) wq from by obtain ⟨nn, e⟩ := hn; subst e; exact run_loadVar_mid _ (rb2 0) (r2 * nC 0) 101 _ d (rangeAt_below (rangeAt_below H2.out hd1) (below_dn' _ _)) hu hd (row_sz (t := 0) (by decide) _)))
            have hgt : (Tryz.prog).eqGuardType (Tryz.prog).depth 101 = false := by kernel_rfl
            have HEQ := hideIt heq
            have HGT := hideIt hgt
            clear heq hgt H1 H2
            clear hrow e2 hu hd er er2 r1 r12
            generalize (rowL 0 (ws 0 r)).toArray = row at *
            go_wp2_with fail
            go_quiet (fail)
            have HWD := hideIt (below_dn' wr nq)
            have a2d := (show (wr.drewN nq).cell? ⟨A, j * 8 + 1, none⟩ = _ from a2)
            have ard := (show (wr.drewN nq).cell? ⟨A, j * 8 + 2, none⟩ = _ from ar)
            have brd := (show (wr.drewN nq).cell? ⟨A2, j * 8 + 2, none⟩ = _ from br)
            have HL1 := hideIt (HLA.out (wr.drewN nq) HWD.out)
            have HL2 := hideIt (HLB.out (wr.drewN nq) HWD.out)
            clear a2 ar br HLA HLB
            generalize wr.drewN nq = wd at *
            go_wp2_with fail
            refine reg0 ard brd (fun wq hq => HA1.out wq (Below.thr HWD.out hq)) (fun wq hq => HA2.out wq (Below.thr HWD.out hq)) HL1.out HL2.out HGT.out HEQ.out ?_
            intro x99 x100 x101 x102 x103 x104 x105 x106 x107 x108 x109 x110 x111 x112 x113 x114 x115 x116 x117 x118 x119 nq2
            go_wp2_with fail
            go_roundw
            case rel => exact ⟨j + 1, by omega, by go_num, Below.thr HBS.out (Below.thr HWD.out (below_dn' _ _))⟩
            case measure => simp [intOf]; omega
          by_cases q1 : t = 3
          · subst q1
            obtain ⟨r, er, r1, _⟩ := HI.out.tb.row j 3 hl3 (by omega) (by omega) et
            obtain ⟨r2, er2, r12, _⟩ := HI2.out.tb.row j 3 hl3 (by omega) (by omega) (e2.trans et)
            have hrow : rowL 1 (ws2 1 r2) = rowL 1 (ws 1 r) := rowL_congr (by decide) (fun f hf => by have := ob_pay HO.out hl3 (t := 1) et hf; rw [er, er2] at this; exact this)
            have H1 := hideIt (M1.out.row 1 (by decide) r r1)
            have H2 : Hid (wr.rangeAt (rb2 1) (r2 * nC 1) (rowL 1 (ws 1 r))) := by show World.rangeAt _ _ _ _; rw [← hrow]; exact M2.out.row 1 (by decide) r2 r12
            rw [er] at ar
            rw [er2] at br
            have HA1 := hideIt (fun wq (hq : Below wr.heap.size wr wq) => at_walk1 (M1.out.below hq) r1)
            have HA2 := hideIt (fun wq (hq : Below wr.heap.size wr wq) => at_walk1 (M2.out.below hq) r12)
            have heq := eq_row1 (ws 1 r)
            obtain ⟨d, hu, hd⟩ := row_un (t := 1) (by decide)
            have HLA := hideIt (fun (wd : World) (hd1 : Below wr.heap.size wr wd) (wq : World) (hn : ∃ nn, wq = wd.drewN nn) => (show (loadVar 109 ⟨rb 1, r * nC 1, none⟩).run Tryz.prog wq = .ok (.agg (rowL 1 (ws 1 r)).toArray) wq from by obtain ⟨nn, e⟩ := hn; subst e; exact run_loadVar_mid _ (rb 1) (r * nC 1) 109 _ d (rangeAt_below (rangeAt_below H1.out hd1) (below_dn' _ _)) hu hd (row_sz (t := 1) (by decide) _)))
            have HLB := hideIt (fun (wd : World) (hd1 : Below wr.heap.size wr wd) (wq : World) (hn : ∃ nn, wq = wd.drewN nn) => (show (loadVar 109 ⟨rb2 1, r2 * nC 1, none⟩).run Tryz.prog wq = .ok (.agg (rowL 1 (ws 1 r)).toArray) wq from by obtain ⟨nn, e⟩ := hn; subst e; exact run_loadVar_mid _ (rb2 1) (r2 * nC 1) 109 _ d (rangeAt_below (rangeAt_below H2.out hd1) (below_dn' _ _)) hu hd (row_sz (t := 1) (by decide) _)))
            have hgt : (Tryz.prog).eqGuardType (Tryz.prog).depth 109 = false := by kernel_rfl
            have HEQ := hideIt heq
            have HGT := hideIt hgt
            clear heq hgt H1 H2
            clear hrow e2 hu hd er er2 r1 r12
            generalize (rowL 1 (ws 1 r)).toArray = row at *
            go_wp2_with fail
            go_quiet (fail)
            have HWD := hideIt (below_dn' wr nq)
            have a2d := (show (wr.drewN nq).cell? ⟨A, j * 8 + 1, none⟩ = _ from a2)
            have ard := (show (wr.drewN nq).cell? ⟨A, j * 8 + 2, none⟩ = _ from ar)
            have brd := (show (wr.drewN nq).cell? ⟨A2, j * 8 + 2, none⟩ = _ from br)
            have HL1 := hideIt (HLA.out (wr.drewN nq) HWD.out)
            have HL2 := hideIt (HLB.out (wr.drewN nq) HWD.out)
            clear a2 ar br HLA HLB
            generalize wr.drewN nq = wd at *
            go_wp2_with fail
            refine reg1 ard brd (fun wq hq => HA1.out wq (Below.thr HWD.out hq)) (fun wq hq => HA2.out wq (Below.thr HWD.out hq)) HL1.out HL2.out HGT.out HEQ.out ?_
            intro x122 x123 x124 x125 x126 x127 x128 x129 x130 x131 x132 x133 x134 x135 x136 x137 x138 x139 x140 x141 x142 nq2
            go_wp2_with fail
            go_roundw
            case rel => exact ⟨j + 1, by omega, by go_num, Below.thr HBS.out (Below.thr HWD.out (below_dn' _ _))⟩
            case measure => simp [intOf]; omega
          by_cases q2 : t = 4
          · subst q2
            obtain ⟨r, er, r1, _⟩ := HI.out.tb.row j 4 hl3 (by omega) (by omega) et
            obtain ⟨r2, er2, r12, _⟩ := HI2.out.tb.row j 4 hl3 (by omega) (by omega) (e2.trans et)
            have hrow : rowL 2 (ws2 2 r2) = rowL 2 (ws 2 r) := rowL_congr (by decide) (fun f hf => by have := ob_pay HO.out hl3 (t := 2) et hf; rw [er, er2] at this; exact this)
            have H1 := hideIt (M1.out.row 2 (by decide) r r1)
            have H2 : Hid (wr.rangeAt (rb2 2) (r2 * nC 2) (rowL 2 (ws 2 r))) := by show World.rangeAt _ _ _ _; rw [← hrow]; exact M2.out.row 2 (by decide) r2 r12
            rw [er] at ar
            rw [er2] at br
            have HA1 := hideIt (fun wq (hq : Below wr.heap.size wr wq) => at_walk2 (M1.out.below hq) r1)
            have HA2 := hideIt (fun wq (hq : Below wr.heap.size wr wq) => at_walk2 (M2.out.below hq) r12)
            have heq := eq_row2 (ws 2 r)
            obtain ⟨d, hu, hd⟩ := row_un (t := 2) (by decide)
            have HLA := hideIt (fun (wd : World) (hd1 : Below wr.heap.size wr wd) (wq : World) (hn : ∃ nn, wq = wd.drewN nn) => (show (loadVar 115 ⟨rb 2, r * nC 2, none⟩).run Tryz.prog wq = .ok (.agg (rowL 2 (ws 2 r)).toArray) wq from by obtain ⟨nn, e⟩ := hn; subst e; exact run_loadVar_mid _ (rb 2) (r * nC 2) 115 _ d (rangeAt_below (rangeAt_below H1.out hd1) (below_dn' _ _)) hu hd (row_sz (t := 2) (by decide) _)))
            have HLB := hideIt (fun (wd : World) (hd1 : Below wr.heap.size wr wd) (wq : World) (hn : ∃ nn, wq = wd.drewN nn) => (show (loadVar 115 ⟨rb2 2, r2 * nC 2, none⟩).run Tryz.prog wq = .ok (.agg (rowL 2 (ws 2 r)).toArray) wq from by obtain ⟨nn, e⟩ := hn; subst e; exact run_loadVar_mid _ (rb2 2) (r2 * nC 2) 115 _ d (rangeAt_below (rangeAt_below H2.out hd1) (below_dn' _ _)) hu hd (row_sz (t := 2) (by decide) _)))
            have hgt : (Tryz.prog).eqGuardType (Tryz.prog).depth 115 = false := by kernel_rfl
            have HEQ := hideIt heq
            have HGT := hideIt hgt
            clear heq hgt H1 H2
            clear hrow e2 hu hd er er2 r1 r12
            generalize (rowL 2 (ws 2 r)).toArray = row at *
            go_wp2_with fail
            go_quiet (fail)
            have HWD := hideIt (below_dn' wr nq)
            have a2d := (show (wr.drewN nq).cell? ⟨A, j * 8 + 1, none⟩ = _ from a2)
            have ard := (show (wr.drewN nq).cell? ⟨A, j * 8 + 2, none⟩ = _ from ar)
            have brd := (show (wr.drewN nq).cell? ⟨A2, j * 8 + 2, none⟩ = _ from br)
            have HL1 := hideIt (HLA.out (wr.drewN nq) HWD.out)
            have HL2 := hideIt (HLB.out (wr.drewN nq) HWD.out)
            clear a2 ar br HLA HLB
            generalize wr.drewN nq = wd at *
            go_wp2_with fail
            refine reg2 ard brd (fun wq hq => HA1.out wq (Below.thr HWD.out hq)) (fun wq hq => HA2.out wq (Below.thr HWD.out hq)) HL1.out HL2.out HGT.out HEQ.out ?_
            intro x145 x146 x147 x148 x149 x150 x151 x152 x153 x154 x155 x156 x157 x158 x159 x160 x161 x162 x163 x164 x165 nq2
            go_wp2_with fail
            go_roundw
            case rel => exact ⟨j + 1, by omega, by go_num, Below.thr HBS.out (Below.thr HWD.out (below_dn' _ _))⟩
            case measure => simp [intOf]; omega
          by_cases q3 : t = 5
          · subst q3
            obtain ⟨r, er, r1, _⟩ := HI.out.tb.row j 5 hl3 (by omega) (by omega) et
            obtain ⟨r2, er2, r12, _⟩ := HI2.out.tb.row j 5 hl3 (by omega) (by omega) (e2.trans et)
            have hrow : rowL 3 (ws2 3 r2) = rowL 3 (ws 3 r) := rowL_congr (by decide) (fun f hf => by have := ob_pay HO.out hl3 (t := 3) et hf; rw [er, er2] at this; exact this)
            have H1 := hideIt (M1.out.row 3 (by decide) r r1)
            have H2 : Hid (wr.rangeAt (rb2 3) (r2 * nC 3) (rowL 3 (ws 3 r))) := by show World.rangeAt _ _ _ _; rw [← hrow]; exact M2.out.row 3 (by decide) r2 r12
            rw [er] at ar
            rw [er2] at br
            have HA1 := hideIt (fun wq (hq : Below wr.heap.size wr wq) => at_walk3 (M1.out.below hq) r1)
            have HA2 := hideIt (fun wq (hq : Below wr.heap.size wr wq) => at_walk3 (M2.out.below hq) r12)
            have heq := eq_row3 (ws 3 r)
            obtain ⟨d, hu, hd⟩ := row_un (t := 3) (by decide)
            have HLA := hideIt (fun (wd : World) (hd1 : Below wr.heap.size wr wd) (wq : World) (hn : ∃ nn, wq = wd.drewN nn) => (show (loadVar 121 ⟨rb 3, r * nC 3, none⟩).run Tryz.prog wq = .ok (.agg (rowL 3 (ws 3 r)).toArray) wq from by obtain ⟨nn, e⟩ := hn; subst e; exact run_loadVar_mid _ (rb 3) (r * nC 3) 121 _ d (rangeAt_below (rangeAt_below H1.out hd1) (below_dn' _ _)) hu hd (row_sz (t := 3) (by decide) _)))
            have HLB := hideIt (fun (wd : World) (hd1 : Below wr.heap.size wr wd) (wq : World) (hn : ∃ nn, wq = wd.drewN nn) => (show (loadVar 121 ⟨rb2 3, r2 * nC 3, none⟩).run Tryz.prog wq = .ok (.agg (rowL 3 (ws 3 r)).toArray) wq from by obtain ⟨nn, e⟩ := hn; subst e; exact run_loadVar_mid _ (rb2 3) (r2 * nC 3) 121 _ d (rangeAt_below (rangeAt_below H2.out hd1) (below_dn' _ _)) hu hd (row_sz (t := 3) (by decide) _)))
            have hgt : (Tryz.prog).eqGuardType (Tryz.prog).depth 121 = false := by kernel_rfl
            have HEQ := hideIt heq
            have HGT := hideIt hgt
            clear heq hgt H1 H2
            clear hrow e2 hu hd er er2 r1 r12
            generalize (rowL 3 (ws 3 r)).toArray = row at *
            go_wp2_with fail
            go_quiet (fail)
            have HWD := hideIt (below_dn' wr nq)
            have a2d := (show (wr.drewN nq).cell? ⟨A, j * 8 + 1, none⟩ = _ from a2)
            have ard := (show (wr.drewN nq).cell? ⟨A, j * 8 + 2, none⟩ = _ from ar)
            have brd := (show (wr.drewN nq).cell? ⟨A2, j * 8 + 2, none⟩ = _ from br)
            have HL1 := hideIt (HLA.out (wr.drewN nq) HWD.out)
            have HL2 := hideIt (HLB.out (wr.drewN nq) HWD.out)
            clear a2 ar br HLA HLB
            generalize wr.drewN nq = wd at *
            go_wp2_with fail
            refine reg3 ard brd (fun wq hq => HA1.out wq (Below.thr HWD.out hq)) (fun wq hq => HA2.out wq (Below.thr HWD.out hq)) HL1.out HL2.out HGT.out HEQ.out ?_
            intro x168 x169 x170 x171 x172 x173 x174 x175 x176 x177 x178 x179 x180 x181 x182 x183 x184 x185 x186 x187 x188 nq2
            go_wp2_with fail
            go_roundw
            case rel => exact ⟨j + 1, by omega, by go_num, Below.thr HBS.out (Below.thr HWD.out (below_dn' _ _))⟩
            case measure => simp [intOf]; omega
          by_cases q4 : t = 6
          · subst q4
            obtain ⟨r, er, r1, _⟩ := HI.out.tb.row j 6 hl3 (by omega) (by omega) et
            obtain ⟨r2, er2, r12, _⟩ := HI2.out.tb.row j 6 hl3 (by omega) (by omega) (e2.trans et)
            have hrow : rowL 4 (ws2 4 r2) = rowL 4 (ws 4 r) := rowL_congr (by decide) (fun f hf => by have := ob_pay HO.out hl3 (t := 4) et hf; rw [er, er2] at this; exact this)
            have H1 := hideIt (M1.out.row 4 (by decide) r r1)
            have H2 : Hid (wr.rangeAt (rb2 4) (r2 * nC 4) (rowL 4 (ws 4 r))) := by show World.rangeAt _ _ _ _; rw [← hrow]; exact M2.out.row 4 (by decide) r2 r12
            rw [er] at ar
            rw [er2] at br
            have HA1 := hideIt (fun wq (hq : Below wr.heap.size wr wq) => at_walk4 (M1.out.below hq) r1)
            have HA2 := hideIt (fun wq (hq : Below wr.heap.size wr wq) => at_walk4 (M2.out.below hq) r12)
            have heq := eq_row4 (ws 4 r)
            obtain ⟨d, hu, hd⟩ := row_un (t := 4) (by decide)
            have HLA := hideIt (fun (wd : World) (hd1 : Below wr.heap.size wr wd) (wq : World) (hn : ∃ nn, wq = wd.drewN nn) => (show (loadVar 127 ⟨rb 4, r * nC 4, none⟩).run Tryz.prog wq = .ok (.agg (rowL 4 (ws 4 r)).toArray) wq from by obtain ⟨nn, e⟩ := hn; subst e; exact run_loadVar_mid _ (rb 4) (r * nC 4) 127 _ d (rangeAt_below (rangeAt_below H1.out hd1) (below_dn' _ _)) hu hd (row_sz (t := 4) (by decide) _)))
            have HLB := hideIt (fun (wd : World) (hd1 : Below wr.heap.size wr wd) (wq : World) (hn : ∃ nn, wq = wd.drewN nn) => (show (loadVar 127 ⟨rb2 4, r2 * nC 4, none⟩).run Tryz.prog wq = .ok (.agg (rowL 4 (ws 4 r)).toArray) wq from by obtain ⟨nn, e⟩ := hn; subst e; exact run_loadVar_mid _ (rb2 4) (r2 * nC 4) 127 _ d (rangeAt_below (rangeAt_below H2.out hd1) (below_dn' _ _)) hu hd (row_sz (t := 4) (by decide) _)))
            have hgt : (Tryz.prog).eqGuardType (Tryz.prog).depth 127 = false := by kernel_rfl
            have HEQ := hideIt heq
            have HGT := hideIt hgt
            clear heq hgt H1 H2
            clear hrow e2 hu hd er er2 r1 r12
            generalize (rowL 4 (ws 4 r)).toArray = row at *
            go_wp2_with fail
            go_quiet (fail)
            have HWD := hideIt (below_dn' wr nq)
            have a2d := (show (wr.drewN nq).cell? ⟨A, j * 8 + 1, none⟩ = _ from a2)
            have ard := (show (wr.drewN nq).cell? ⟨A, j * 8 + 2, none⟩ = _ from ar)
            have brd := (show (wr.drewN nq).cell? ⟨A2, j * 8 + 2, none⟩ = _ from br)
            have HL1 := hideIt (HLA.out (wr.drewN nq) HWD.out)
            have HL2 := hideIt (HLB.out (wr.drewN nq) HWD.out)
            clear a2 ar br HLA HLB
            generalize wr.drewN nq = wd at *
            go_wp2_with fail
            refine reg4 ard brd (fun wq hq => HA1.out wq (Below.thr HWD.out hq)) (fun wq hq => HA2.out wq (Below.thr HWD.out hq)) HL1.out HL2.out HGT.out HEQ.out ?_
            intro x191 x192 x193 x194 x195 x196 x197 x198 x199 x200 x201 x202 x203 x204 x205 x206 x207 x208 x209 x210 x211 nq2
            go_wp2_with fail
            go_roundw
            case rel => exact ⟨j + 1, by omega, by go_num, Below.thr HBS.out (Below.thr HWD.out (below_dn' _ _))⟩
            case measure => simp [intOf]; omega
          by_cases q5 : t = 7
          · subst q5
            obtain ⟨r, er, r1, _⟩ := HI.out.tb.row j 7 hl3 (by omega) (by omega) et
            obtain ⟨r2, er2, r12, _⟩ := HI2.out.tb.row j 7 hl3 (by omega) (by omega) (e2.trans et)
            have hrow : rowL 5 (ws2 5 r2) = rowL 5 (ws 5 r) := rowL_congr (by decide) (fun f hf => by have := ob_pay HO.out hl3 (t := 5) et hf; rw [er, er2] at this; exact this)
            have H1 := hideIt (M1.out.row 5 (by decide) r r1)
            have H2 : Hid (wr.rangeAt (rb2 5) (r2 * nC 5) (rowL 5 (ws 5 r))) := by show World.rangeAt _ _ _ _; rw [← hrow]; exact M2.out.row 5 (by decide) r2 r12
            rw [er] at ar
            rw [er2] at br
            have HA1 := hideIt (fun wq (hq : Below wr.heap.size wr wq) => at_walk5 (M1.out.below hq) r1)
            have HA2 := hideIt (fun wq (hq : Below wr.heap.size wr wq) => at_walk5 (M2.out.below hq) r12)
            have heq := eq_row5 (ws 5 r)
            obtain ⟨d, hu, hd⟩ := row_un (t := 5) (by decide)
            have HLA := hideIt (fun (wd : World) (hd1 : Below wr.heap.size wr wd) (wq : World) (hn : ∃ nn, wq = wd.drewN nn) => (show (loadVar 133 ⟨rb 5, r * nC 5, none⟩).run Tryz.prog wq = .ok (.agg (rowL 5 (ws 5 r)).toArray) wq from by obtain ⟨nn, e⟩ := hn; subst e; exact run_loadVar_mid _ (rb 5) (r * nC 5) 133 _ d (rangeAt_below (rangeAt_below H1.out hd1) (below_dn' _ _)) hu hd (row_sz (t := 5) (by decide) _)))
            have HLB := hideIt (fun (wd : World) (hd1 : Below wr.heap.size wr wd) (wq : World) (hn : ∃ nn, wq = wd.drewN nn) => (show (loadVar 133 ⟨rb2 5, r2 * nC 5, none⟩).run Tryz.prog wq = .ok (.agg (rowL 5 (ws 5 r)).toArray) wq from by obtain ⟨nn, e⟩ := hn; subst e; exact run_loadVar_mid _ (rb2 5) (r2 * nC 5) 133 _ d (rangeAt_below (rangeAt_below H2.out hd1) (below_dn' _ _)) hu hd (row_sz (t := 5) (by decide) _)))
            have hgt : (Tryz.prog).eqGuardType (Tryz.prog).depth 133 = false := by kernel_rfl
            have HEQ := hideIt heq
            have HGT := hideIt hgt
            clear heq hgt H1 H2
            clear hrow e2 hu hd er er2 r1 r12
            generalize (rowL 5 (ws 5 r)).toArray = row at *
            go_wp2_with fail
            go_quiet (fail)
            have HWD := hideIt (below_dn' wr nq)
            have a2d := (show (wr.drewN nq).cell? ⟨A, j * 8 + 1, none⟩ = _ from a2)
            have ard := (show (wr.drewN nq).cell? ⟨A, j * 8 + 2, none⟩ = _ from ar)
            have brd := (show (wr.drewN nq).cell? ⟨A2, j * 8 + 2, none⟩ = _ from br)
            have HL1 := hideIt (HLA.out (wr.drewN nq) HWD.out)
            have HL2 := hideIt (HLB.out (wr.drewN nq) HWD.out)
            clear a2 ar br HLA HLB
            generalize wr.drewN nq = wd at *
            go_wp2_with fail
            refine reg5 ard brd (fun wq hq => HA1.out wq (Below.thr HWD.out hq)) (fun wq hq => HA2.out wq (Below.thr HWD.out hq)) HL1.out HL2.out HGT.out HEQ.out ?_
            intro x214 x215 x216 x217 x218 x219 x220 x221 x222 x223 x224 x225 x226 x227 x228 x229 x230 x231 x232 x233 x234 nq2
            go_wp2_with fail
            go_roundw
            case rel => exact ⟨j + 1, by omega, by go_num, Below.thr HBS.out (Below.thr HWD.out (below_dn' _ _))⟩
            case measure => simp [intOf]; omega
          have k1 : ((t : Int) == 2) = false := by rw [beq_eq_false_iff_ne]; omega
          have k2 : ((t : Int) == 3) = false := by rw [beq_eq_false_iff_ne]; omega
          have k3 : ((t : Int) == 4) = false := by rw [beq_eq_false_iff_ne]; omega
          have k4 : ((t : Int) == 5) = false := by rw [beq_eq_false_iff_ne]; omega
          have k5 : ((t : Int) == 6) = false := by rw [beq_eq_false_iff_ne]; omega
          have k6 : ((t : Int) == 7) = false := by rw [beq_eq_false_iff_ne]; omega
          go_wp2_with fail
          go_quiet (fail)
          go_wp2_with fail
          go_roundw
          case rel => exact ⟨j + 1, by omega, by go_num, Below.thr HBS.out (below_dn' _ _)⟩
          case measure => simp [intOf]; omega
        · obtain rfl : j = 256 := by omega
          clear hbr
          go_wp2_with fail
          go_ret
          exact ⟨rfl, HBS.out⟩
end
end Go.Proofs.Qxb6500847aGreatDoor.Os
