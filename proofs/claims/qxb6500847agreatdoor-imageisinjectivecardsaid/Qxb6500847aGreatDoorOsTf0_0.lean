/-
  typedStore: CNode, field 0.
-/
import Derived.Test.Qxb6500847aGreatDoorOsTf
import Derived.Test.Qxb6500847aGreatDoorOsQb
import Derived.Test.Qxb6500847aGreatDoorOsQd
import Derived.BigQuiet
namespace Go.Proofs.Qxb6500847aGreatDoor.Os
open Go.RowKit FloorA
set_option maxRecDepth 100000
section
variable {A : Nat} {rb sb : Nat → Nat} {s : Av} {tl : Nat → List Int} {ws : Nat → Nat → Nat → Int} {w : World} {L : Nat → List Nat} {n : Nat}
set_option maxHeartbeats 8000000 in
theorem ts_0_0 (h : Ms w A rb sb s tl ws) (hI : IV s tl L n) (hW : Wr ws) (hK : Kd w) (kl : 1 < w.heap.size) (i : Nat) (g : Int) {F : Int} {c : Nat} (hc16 : c < 16) (hF : F = ((7 * c + 0 : Nat) : Int)) (v : Nat) (hv : v < 18446744073709551616) (ht : (if Live s i g then (s.hd i).typ else 0) = 2) :
    Calls Tryz.prog 61 #[.pointer (some ⟨A, 0, none⟩), .agg #[.int .u16 (i : Int), .int .u32 g], .int .i64 F, .int .u64 (v : Int)] w (TsPost A rb sb s tl ws (stoX (ob s ws) i g (7 * c + 0) (v : Int)) w) := by
  have f1 : ¬ ((112 : Int) ≤ F) := by rw [hF]; omega
  have f2 : Int.tdiv F 7 = (c : Int) := by rw [hF, Int.tdiv_eq_ediv_of_nonneg (by omega)]; omega
  have f3 : Int.tmod F 7 = 0 := by rw [hF, Int.tmod_eq_emod_of_nonneg (by omega)]; omega
  have f4 : F / 7 = (c : Int) := by rw [hF]; omega
  have f5 : F % 7 = 0 := by rw [hF]; omega
  have f6 : decide ((112 : Int) ≤ F) = false := decide_eq_false f1
  have f0 : (0 : Int) ≤ F := by rw [hF]; omega
  have HC16 := hideIt hc16
  have cb : (c : Int) < 16 := by omega
  clear f1 hF hc16
  have v0 := bx_v A i g v w
  have k0 := bx_below A i g v w
  have HBa := hideIt k0
  have HMa := hideIt (h.below k0)
  have HKa : Hid (Kd (bxW A i g v w)) := hK.below k0 kl
  have HLa : Hid (1 < (bxW A i g v w).heap.size) := Nat.lt_of_lt_of_le kl k0.size
  have HXa := hideIt (bx_bx A i g v w)
  have HVa := hideIt v0
  have HI := hideIt hI
  have HT0 := hideIt ht
  have HW : Hid (Wr ws) := hW
  obtain ⟨b8, e8⟩ : ∃ b, decide ((v : Int) < 256) = b := ⟨_, rfl⟩
  obtain ⟨b16, e16⟩ : ∃ b, decide ((v : Int) < 65536) = b := ⟨_, rfl⟩
  obtain ⟨b48, e48⟩ : ∃ b, decide ((v : Int) < 281474976710656) = b := ⟨_, rfl⟩
  clear h hI hW hK k0
  go_enter Tryz.func61, Tryz.ntmps61
  go_wp2_with fail
  rw [show ((w.alloc (.cells #[.pointer (some ⟨A, 0, none⟩)] 24)).alloc (.cells #[.int .u16 (i : Int), .int .u32 g] 32)).alloc (.cells #[.int .u64 (v : Int)] 34) = bxW A i g v w from rfl]
  generalize bxW A i g v w = w0 at *
  go_quiet (fail)
  have bq := below_dN w0 nq
  have HB0 := hideIt (Below.thr HBa.out bq)
  have HM0 := hideIt (HMa.out.below bq)
  have HK0 : Hid (Kd (w0.drewN nq)) := HKa.out.below bq HLa.out
  have HL0 : Hid (1 < (w0.drewN nq).heap.size) := Nat.lt_of_lt_of_le HLa.out bq.size
  have HX0 := hideIt (HXa.out.below bq)
  have HV0 := hideIt ((bq.cell (p := ⟨w.heap.size + 1 + 1, 0, none⟩) (cell_lt v0)).trans v0)
  have x1 := HX0.out.a
  have x2 := HX0.out.r0
  have x3 := HX0.out.r1
  have HTy := hideIt (TypeOf_walk HM0.out.am i g)
  rw [ht] at HTy
  clear bq v0 HBa HMa HKa HLa HXa HVa
  generalize w0.drewN nq = w00 at *
  go_wp2_with fail
  go_at_call 91
  refine HTy.out.mono ?_
  rintro e w1 ⟨rfl, hb1⟩
  have HB1 := hideIt (Below.thr HB0.out hb1)
  have HM1 := hideIt (HM0.out.below hb1)
  have HK1 : Hid (Kd w1) := HK0.out.below hb1 HL0.out
  have HL1 : Hid (1 < w1.heap.size) := Nat.lt_of_lt_of_le HL0.out hb1.size
  have HX1 := hideIt (HX0.out.below hb1)
  have HV1 := hideIt ((hb1.cell (p := ⟨w.heap.size + 1 + 1, 0, none⟩) (cell_lt HV0.out)).trans HV0.out)
  clear hb1 x1 x2 x3 HV0 HM0 HK0 HL0 HX0 HTy
  go_wp2_with fail
  go_at_call 137
  refine (with137 144 #[.pointer (some ⟨w.heap.size + 1 + 1, 0, none⟩)] w.heap.size (w.heap.size + 1) w1.heap.size (w1.alloc (.cells #[.int .i64 (c : Int)] 3))).mono ?_
  rintro e w2 ⟨⟨bc, rfl, hc2⟩, hb2'⟩
  have hb2 : Below w1.heap.size w1 w2 := Below.thr (alloc_below _) hb2'
  have HS2 : Hid (w2.cell? ⟨w1.heap.size, 0, none⟩ = some (.int .i64 (c : Int))) := (hb2'.cell (p := ⟨w1.heap.size, 0, none⟩) (by simp)).trans (cell_of_one (heap_alloc_new w1 _))
  clear hb2'
  have HB2 := hideIt (Below.thr HB1.out hb2)
  have HM2 := hideIt (HM1.out.below hb2)
  have HK2 : Hid (Kd w2) := HK1.out.below hb2 HL1.out
  have HL2 : Hid (1 < w2.heap.size) := Nat.lt_of_lt_of_le HL1.out hb2.size
  have HX2 := hideIt (HX1.out.below hb2)
  have HV2 := hideIt ((hb2.cell (p := ⟨w.heap.size + 1 + 1, 0, none⟩) (cell_lt HV1.out)).trans HV1.out)
  have HC2 := hideIt hc2
  have HLV := hideIt (cell_lt HV2.out)
  clear hb2 hc2 HB1 HM1 HK1 HL1 HX1 HV1
  cases b48
  · go_wp2_with fail
    go_ret2
    exact Or.inl ⟨rfl, HB2.out⟩
  · have hvv : v < 281474976710656 := by have := of_decide_eq_true e48; omega
    have HR := hideIt (run138 HC16.out HM2.out HI.out HW.out HK2.out HL2.out i g (fun U => upd U 0 (v : Int)) 144 #[.pointer (some ⟨w.heap.size + 1 + 1, 0, none⟩)] ent144 (fun w1 b W k1 _ k3 k4 k5 => (clo144 (o := 0) k4 k5 ((k1.cell (p := ⟨w.heap.size + 1 + 1, 0, none⟩) HLV.out).trans HV2.out) hvv).mono (fun e w' hh => cz_cc hh k3 (by unfold fMax; simp; omega))) HX2.out HS2.out HC2.out)
    have hfe : (fun W : Nat → Int => putC W c (upd (fun j => W (7 * c + j)) 0 (v : Int))) = fun W => upd W (7 * c + 0) (v : Int) := funext (fun W => putC_upd (by omega))
    rw [hfe] at HR
    rw [upd_sto (t := 0) (f := 7 * c + 0) HI.out HW.out HT0.out (by omega) (by show 7 * c + 0 < 112; have := HC16.out; omega) (by rw [fMax0_mod, show (7 * c + 0) % 7 = 0 by omega]; unfold fMax; simp; omega)] at HR
    clear hfe
    go_wp2_with fail
    go_at_call 138
    refine HR.out.mono ?_
    intro e w3 hh
    obtain ⟨vv, rfl⟩ := hh.ret
    have HH := hideIt (hh.from HB2.out)
    clear hh
    go_wp2_with fail
    go_ret2
    exact Or.inr ⟨vv, rfl, HH.out⟩
end
end Go.Proofs.Qxb6500847aGreatDoor.Os
