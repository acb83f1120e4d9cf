/-
  typedStore: type 3, part 0.
-/
import Derived.Test.Qxb6500847aGreatDoorOsTf
import Derived.Test.Qxb6500847aGreatDoorOsQb
import Derived.Test.Qxb6500847aGreatDoorOsQd
import Derived.BigQuiet
namespace Go.Proofs.Qxb6500847aGreatDoor.Os
open Go.RowKit FloorA
set_option maxRecDepth 100000
section
variable {A : Nat} {rb sb : Nat → Nat} {s : Av} {tl : Nat → List Int} {ws : Nat → Nat → Nat → Int} {w : World} {L : Nat → List Nat} {n : Nat}
set_option maxHeartbeats 8000000 in
theorem ts_3_1 (h : Ms w A rb sb s tl ws) (hI : IV s tl L n) (hW : Wr ws) (hK : Kd w) (kl : 1 < w.heap.size) (i : Nat) (g : Int)  (v : Nat) (hv : v < 18446744073709551616) (ht : (if Live s i g then (s.hd i).typ else 0) = 5) :
    Calls Tryz.prog 61 #[.pointer (some ⟨A, 0, none⟩), .agg #[.int .u16 (i : Int), .int .u32 g], .int .i64 1, .int .u64 (v : Int)] w (TsPost A rb sb s tl ws (stoX (ob s ws) i g 1 (v : Int)) w) := by
  have v0 := bx_v A i g v w
  have k0 := bx_below A i g v w
  have HBa := hideIt k0
  have HMa := hideIt (h.below k0)
  have HKa : Hid (Kd (bxW A i g v w)) := hK.below k0 kl
  have HLa : Hid (1 < (bxW A i g v w).heap.size) := Nat.lt_of_lt_of_le kl k0.size
  have HXa := hideIt (bx_bx A i g v w)
  have HVa := hideIt v0
  have HI := hideIt hI
  have HT0 := hideIt ht
  have HW : Hid (Wr ws) := hW
  obtain ⟨b8, e8⟩ : ∃ b, decide ((v : Int) < 256) = b := ⟨_, rfl⟩
  obtain ⟨b16, e16⟩ : ∃ b, decide ((v : Int) < 65536) = b := ⟨_, rfl⟩
  obtain ⟨b48, e48⟩ : ∃ b, decide ((v : Int) < 281474976710656) = b := ⟨_, rfl⟩
  clear h hI hW hK k0
  go_enter Tryz.func61, Tryz.ntmps61
  go_wp2_with fail
  rw [show ((w.alloc (.cells #[.pointer (some ⟨A, 0, none⟩)] 24)).alloc (.cells #[.int .u16 (i : Int), .int .u32 g] 32)).alloc (.cells #[.int .u64 (v : Int)] 34) = bxW A i g v w from rfl]
  generalize bxW A i g v w = w0 at *
  go_quiet (fail)
  have bq := below_dN w0 nq
  have HB0 := hideIt (Below.thr HBa.out bq)
  have HM0 := hideIt (HMa.out.below bq)
  have HK0 : Hid (Kd (w0.drewN nq)) := HKa.out.below bq HLa.out
  have HL0 : Hid (1 < (w0.drewN nq).heap.size) := Nat.lt_of_lt_of_le HLa.out bq.size
  have HX0 := hideIt (HXa.out.below bq)
  have HV0 := hideIt ((bq.cell (p := ⟨w.heap.size + 1 + 1, 0, none⟩) (cell_lt v0)).trans v0)
  have x1 := HX0.out.a
  have x2 := HX0.out.r0
  have x3 := HX0.out.r1
  have HTy := hideIt (TypeOf_walk HM0.out.am i g)
  rw [ht] at HTy
  clear bq v0 HBa HMa HKa HLa HXa HVa
  generalize w0.drewN nq = w00 at *
  go_wp2_with fail
  go_at_call 91
  refine HTy.out.mono ?_
  rintro e w1 ⟨rfl, hb1⟩
  have HB1 := hideIt (Below.thr HB0.out hb1)
  have HM1 := hideIt (HM0.out.below hb1)
  have HK1 : Hid (Kd w1) := HK0.out.below hb1 HL0.out
  have HL1 : Hid (1 < w1.heap.size) := Nat.lt_of_lt_of_le HL0.out hb1.size
  have HX1 := hideIt (HX0.out.below hb1)
  have HV1 := hideIt ((hb1.cell (p := ⟨w.heap.size + 1 + 1, 0, none⟩) (cell_lt HV0.out)).trans HV0.out)
  clear hb1 x1 x2 x3 HV0 HM0 HK0 HL0 HX0 HTy
  go_wp2_with fail
  go_at_call 169
  refine (with169 172 #[.pointer (some ⟨w.heap.size + 1 + 1, 0, none⟩)] w.heap.size (w.heap.size + 1) w1).mono ?_
  rintro e w2 ⟨⟨bc, rfl, hc2⟩, hb2⟩
  have HB2 := hideIt (Below.thr HB1.out hb2)
  have HM2 := hideIt (HM1.out.below hb2)
  have HK2 : Hid (Kd w2) := HK1.out.below hb2 HL1.out
  have HL2 : Hid (1 < w2.heap.size) := Nat.lt_of_lt_of_le HL1.out hb2.size
  have HX2 := hideIt (HX1.out.below hb2)
  have HV2 := hideIt ((hb2.cell (p := ⟨w.heap.size + 1 + 1, 0, none⟩) (cell_lt HV1.out)).trans HV1.out)
  have HC2 := hideIt hc2
  have HLV := hideIt (cell_lt HV2.out)
  clear hb2 hc2 HB1 HM1 HK1 HL1 HX1 HV1
  cases b16
  · go_wp2_with fail
    go_ret2
    exact Or.inl ⟨rfl, HB2.out⟩
  · have hvv : v < 65536 := by have := of_decide_eq_true e16; omega
    have HR := hideIt (run170 HM2.out HI.out HW.out HK2.out HL2.out i g (fun W => upd W 1 (v : Int)) 172 #[.pointer (some ⟨w.heap.size + 1 + 1, 0, none⟩)] ent172 (fun w1 b W k1 _ k3 k4 k5 => (clo172 (o := 0) k4 k5 ((k1.cell (p := ⟨w.heap.size + 1 + 1, 0, none⟩) HLV.out).trans HV2.out) hvv).mono (fun e w' hh => cz_ch hh k3 (by unfold fMax; simp; omega))) HX2.out HC2.out)
    rw [upd_sto (t := 3) (f := 1) HI.out HW.out HT0.out (by omega) (by decide) (by unfold fMax; simp; omega)] at HR
    go_wp2_with fail
    go_at_call 170
    refine HR.out.mono ?_
    intro e w3 hh
    obtain ⟨vv, rfl⟩ := hh.ret
    have HH := hideIt (hh.from HB2.out)
    clear hh
    go_wp2_with fail
    go_ret2
    exact Or.inr ⟨vv, rfl, HH.out⟩
set_option maxHeartbeats 8000000 in
theorem ts_3_2 (h : Ms w A rb sb s tl ws) (hI : IV s tl L n) (hW : Wr ws) (hK : Kd w) (kl : 1 < w.heap.size) (i : Nat) (g : Int)  (v : Nat) (hv : v < 18446744073709551616) (ht : (if Live s i g then (s.hd i).typ else 0) = 5) :
    Calls Tryz.prog 61 #[.pointer (some ⟨A, 0, none⟩), .agg #[.int .u16 (i : Int), .int .u32 g], .int .i64 2, .int .u64 (v : Int)] w (TsPost A rb sb s tl ws (stoX (ob s ws) i g 2 (v : Int)) w) := by
  have v0 := bx_v A i g v w
  have k0 := bx_below A i g v w
  have HBa := hideIt k0
  have HMa := hideIt (h.below k0)
  have HKa : Hid (Kd (bxW A i g v w)) := hK.below k0 kl
  have HLa : Hid (1 < (bxW A i g v w).heap.size) := Nat.lt_of_lt_of_le kl k0.size
  have HXa := hideIt (bx_bx A i g v w)
  have HVa := hideIt v0
  have HI := hideIt hI
  have HT0 := hideIt ht
  have HW : Hid (Wr ws) := hW
  obtain ⟨b8, e8⟩ : ∃ b, decide ((v : Int) < 256) = b := ⟨_, rfl⟩
  obtain ⟨b16, e16⟩ : ∃ b, decide ((v : Int) < 65536) = b := ⟨_, rfl⟩
  obtain ⟨b48, e48⟩ : ∃ b, decide ((v : Int) < 281474976710656) = b := ⟨_, rfl⟩
  clear h hI hW hK k0
  go_enter Tryz.func61, Tryz.ntmps61
  go_wp2_with fail
  rw [show ((w.alloc (.cells #[.pointer (some ⟨A, 0, none⟩)] 24)).alloc (.cells #[.int .u16 (i : Int), .int .u32 g] 32)).alloc (.cells #[.int .u64 (v : Int)] 34) = bxW A i g v w from rfl]
  generalize bxW A i g v w = w0 at *
  go_quiet (fail)
  have bq := below_dN w0 nq
  have HB0 := hideIt (Below.thr HBa.out bq)
  have HM0 := hideIt (HMa.out.below bq)
  have HK0 : Hid (Kd (w0.drewN nq)) := HKa.out.below bq HLa.out
  have HL0 : Hid (1 < (w0.drewN nq).heap.size) := Nat.lt_of_lt_of_le HLa.out bq.size
  have HX0 := hideIt (HXa.out.below bq)
  have HV0 := hideIt ((bq.cell (p := ⟨w.heap.size + 1 + 1, 0, none⟩) (cell_lt v0)).trans v0)
  have x1 := HX0.out.a
  have x2 := HX0.out.r0
  have x3 := HX0.out.r1
  have HTy := hideIt (TypeOf_walk HM0.out.am i g)
  rw [ht] at HTy
  clear bq v0 HBa HMa HKa HLa HXa HVa
  generalize w0.drewN nq = w00 at *
  go_wp2_with fail
  go_at_call 91
  refine HTy.out.mono ?_
  rintro e w1 ⟨rfl, hb1⟩
  have HB1 := hideIt (Below.thr HB0.out hb1)
  have HM1 := hideIt (HM0.out.below hb1)
  have HK1 : Hid (Kd w1) := HK0.out.below hb1 HL0.out
  have HL1 : Hid (1 < w1.heap.size) := Nat.lt_of_lt_of_le HL0.out hb1.size
  have HX1 := hideIt (HX0.out.below hb1)
  have HV1 := hideIt ((hb1.cell (p := ⟨w.heap.size + 1 + 1, 0, none⟩) (cell_lt HV0.out)).trans HV0.out)
  clear hb1 x1 x2 x3 HV0 HM0 HK0 HL0 HX0 HTy
  go_wp2_with fail
  go_at_call 169
  refine (with169 173 #[.pointer (some ⟨w.heap.size + 1 + 1, 0, none⟩)] w.heap.size (w.heap.size + 1) w1).mono ?_
  rintro e w2 ⟨⟨bc, rfl, hc2⟩, hb2⟩
  have HB2 := hideIt (Below.thr HB1.out hb2)
  have HM2 := hideIt (HM1.out.below hb2)
  have HK2 : Hid (Kd w2) := HK1.out.below hb2 HL1.out
  have HL2 : Hid (1 < w2.heap.size) := Nat.lt_of_lt_of_le HL1.out hb2.size
  have HX2 := hideIt (HX1.out.below hb2)
  have HV2 := hideIt ((hb2.cell (p := ⟨w.heap.size + 1 + 1, 0, none⟩) (cell_lt HV1.out)).trans HV1.out)
  have HC2 := hideIt hc2
  have HLV := hideIt (cell_lt HV2.out)
  clear hb2 hc2 HB1 HM1 HK1 HL1 HX1 HV1
  cases b16
  · go_wp2_with fail
    go_ret2
    exact Or.inl ⟨rfl, HB2.out⟩
  · have hvv : v < 65536 := by have := of_decide_eq_true e16; omega
    have HR := hideIt (run170 HM2.out HI.out HW.out HK2.out HL2.out i g (fun W => upd W 2 (v : Int)) 173 #[.pointer (some ⟨w.heap.size + 1 + 1, 0, none⟩)] ent173 (fun w1 b W k1 _ k3 k4 k5 => (clo173 (o := 0) k4 k5 ((k1.cell (p := ⟨w.heap.size + 1 + 1, 0, none⟩) HLV.out).trans HV2.out) hvv).mono (fun e w' hh => cz_ch hh k3 (by unfold fMax; simp; omega))) HX2.out HC2.out)
    rw [upd_sto (t := 3) (f := 2) HI.out HW.out HT0.out (by omega) (by decide) (by unfold fMax; simp; omega)] at HR
    go_wp2_with fail
    go_at_call 170
    refine HR.out.mono ?_
    intro e w3 hh
    obtain ⟨vv, rfl⟩ := hh.ret
    have HH := hideIt (hh.from HB2.out)
    clear hh
    go_wp2_with fail
    go_ret2
    exact Or.inr ⟨vv, rfl, HH.out⟩
set_option maxHeartbeats 8000000 in
theorem ts_3_3 (h : Ms w A rb sb s tl ws) (hI : IV s tl L n) (hW : Wr ws) (hK : Kd w) (kl : 1 < w.heap.size) (i : Nat) (g : Int)  (v : Nat) (hv : v < 18446744073709551616) (ht : (if Live s i g then (s.hd i).typ else 0) = 5) :
    Calls Tryz.prog 61 #[.pointer (some ⟨A, 0, none⟩), .agg #[.int .u16 (i : Int), .int .u32 g], .int .i64 3, .int .u64 (v : Int)] w (TsPost A rb sb s tl ws (stoX (ob s ws) i g 3 (v : Int)) w) := by
  have v0 := bx_v A i g v w
  have k0 := bx_below A i g v w
  have HBa := hideIt k0
  have HMa := hideIt (h.below k0)
  have HKa : Hid (Kd (bxW A i g v w)) := hK.below k0 kl
  have HLa : Hid (1 < (bxW A i g v w).heap.size) := Nat.lt_of_lt_of_le kl k0.size
  have HXa := hideIt (bx_bx A i g v w)
  have HVa := hideIt v0
  have HI := hideIt hI
  have HT0 := hideIt ht
  have HW : Hid (Wr ws) := hW
  obtain ⟨b8, e8⟩ : ∃ b, decide ((v : Int) < 256) = b := ⟨_, rfl⟩
  obtain ⟨b16, e16⟩ : ∃ b, decide ((v : Int) < 65536) = b := ⟨_, rfl⟩
  obtain ⟨b48, e48⟩ : ∃ b, decide ((v : Int) < 281474976710656) = b := ⟨_, rfl⟩
  clear h hI hW hK k0
  go_enter Tryz.func61, Tryz.ntmps61
  go_wp2_with fail
  rw [show ((w.alloc (.cells #[.pointer (some ⟨A, 0, none⟩)] 24)).alloc (.cells #[.int .u16 (i : Int), .int .u32 g] 32)).alloc (.cells #[.int .u64 (v : Int)] 34) = bxW A i g v w from rfl]
  generalize bxW A i g v w = w0 at *
  go_quiet (fail)
  have bq := below_dN w0 nq
  have HB0 := hideIt (Below.thr HBa.out bq)
  have HM0 := hideIt (HMa.out.below bq)
  have HK0 : Hid (Kd (w0.drewN nq)) := HKa.out.below bq HLa.out
  have HL0 : Hid (1 < (w0.drewN nq).heap.size) := Nat.lt_of_lt_of_le HLa.out bq.size
  have HX0 := hideIt (HXa.out.below bq)
  have HV0 := hideIt ((bq.cell (p := ⟨w.heap.size + 1 + 1, 0, none⟩) (cell_lt v0)).trans v0)
  have x1 := HX0.out.a
  have x2 := HX0.out.r0
  have x3 := HX0.out.r1
  have HTy := hideIt (TypeOf_walk HM0.out.am i g)
  rw [ht] at HTy
  clear bq v0 HBa HMa HKa HLa HXa HVa
  generalize w0.drewN nq = w00 at *
  go_wp2_with fail
  go_at_call 91
  refine HTy.out.mono ?_
  rintro e w1 ⟨rfl, hb1⟩
  have HB1 := hideIt (Below.thr HB0.out hb1)
  have HM1 := hideIt (HM0.out.below hb1)
  have HK1 : Hid (Kd w1) := HK0.out.below hb1 HL0.out
  have HL1 : Hid (1 < w1.heap.size) := Nat.lt_of_lt_of_le HL0.out hb1.size
  have HX1 := hideIt (HX0.out.below hb1)
  have HV1 := hideIt ((hb1.cell (p := ⟨w.heap.size + 1 + 1, 0, none⟩) (cell_lt HV0.out)).trans HV0.out)
  clear hb1 x1 x2 x3 HV0 HM0 HK0 HL0 HX0 HTy
  go_wp2_with fail
  go_at_call 169
  refine (with169 174 #[.pointer (some ⟨w.heap.size + 1 + 1, 0, none⟩)] w.heap.size (w.heap.size + 1) w1).mono ?_
  rintro e w2 ⟨⟨bc, rfl, hc2⟩, hb2⟩
  have HB2 := hideIt (Below.thr HB1.out hb2)
  have HM2 := hideIt (HM1.out.below hb2)
  have HK2 : Hid (Kd w2) := HK1.out.below hb2 HL1.out
  have HL2 : Hid (1 < w2.heap.size) := Nat.lt_of_lt_of_le HL1.out hb2.size
  have HX2 := hideIt (HX1.out.below hb2)
  have HV2 := hideIt ((hb2.cell (p := ⟨w.heap.size + 1 + 1, 0, none⟩) (cell_lt HV1.out)).trans HV1.out)
  have HC2 := hideIt hc2
  have HLV := hideIt (cell_lt HV2.out)
  clear hb2 hc2 HB1 HM1 HK1 HL1 HX1 HV1
  cases b48
  · go_wp2_with fail
    go_ret2
    exact Or.inl ⟨rfl, HB2.out⟩
  · have hvv : v < 281474976710656 := by have := of_decide_eq_true e48; omega
    have HR := hideIt (run170 HM2.out HI.out HW.out HK2.out HL2.out i g (fun W => upd W 3 (v : Int)) 174 #[.pointer (some ⟨w.heap.size + 1 + 1, 0, none⟩)] ent174 (fun w1 b W k1 _ k3 k4 k5 => (clo174 (o := 0) k4 k5 ((k1.cell (p := ⟨w.heap.size + 1 + 1, 0, none⟩) HLV.out).trans HV2.out) hvv).mono (fun e w' hh => cz_ch hh k3 (by unfold fMax; simp; omega))) HX2.out HC2.out)
    rw [upd_sto (t := 3) (f := 3) HI.out HW.out HT0.out (by omega) (by decide) (by unfold fMax; simp; omega)] at HR
    go_wp2_with fail
    go_at_call 170
    refine HR.out.mono ?_
    intro e w3 hh
    obtain ⟨vv, rfl⟩ := hh.ret
    have HH := hideIt (hh.from HB2.out)
    clear hh
    go_wp2_with fail
    go_ret2
    exact Or.inr ⟨vv, rfl, HH.out⟩
end
end Go.Proofs.Qxb6500847aGreatDoor.Os
