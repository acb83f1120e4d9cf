/-
  copyPayload: type 3.
-/
import Derived.Test.Qxb6500847aGreatDoorOsTe
import Derived.Test.Qxb6500847aGreatDoorOsQf
import Derived.Test.Qxb6500847aGreatDoorOsQb
import Derived.Test.Qxb6500847aGreatDoorOsCp
import Derived.BigQuiet
import Derived.Deep.MidRow
namespace Go.Proofs.Qxb6500847aGreatDoor.Os
open Go.RowKit FloorA
set_option maxRecDepth 100000
section
variable {A : Nat} {rb sb : Nat → Nat} {s : Av} {tl : Nat → List Int} {ws : Nat → Nat → Nat → Int} {w : World} {L : Nat → List Nat} {n : Nat}
set_option maxHeartbeats 8000000 in
theorem cp_3 (h : Ms w A rb sb s tl ws) (hI : IV s tl L n) (hW : Wr ws) (hK : Kd w) (kl : 1 < w.heap.size) (i j : Nat) (g gg : Int) (cw : Bool) (ht : (s.hd i).typ = 5) :
    Calls Tryz.prog 66 #[.pointer (some ⟨A, 0, none⟩), .agg #[.int .u16 (i : Int), .int .u32 g], .agg #[.int .u16 (j : Int), .int .u32 gg], .bool cw] w (MrPost A rb sb s tl ws (cpyX (ob s ws) i g j gg) w) := by
  have k0 := cpW_below i j g gg w
  have HB0 := hideIt k0
  have HM0 := hideIt (h.below k0)
  have HK0 : Hid (Kd (cpW i j g gg w)) := hK.below k0 kl
  have HL0 : Hid (1 < (cpW i j g gg w).heap.size) := Nat.lt_of_lt_of_le kl k0.size
  have HX0 := hideIt (cpW_rb i j g gg w)
  have HI := hideIt hI
  have HW : Hid (Wr ws) := hW
  have x5 := HX0.out.i0
  have x6 := HX0.out.i1
  clear h hI hW hK k0
  go_enter Tryz.func66, Tryz.ntmps66
  go_upto_region 1 with fail
  rw [show (w.alloc (.cells #[.int .u16 (i : Int), .int .u32 g] 32)).alloc (.cells #[.int .u16 (j : Int), .int .u32 gg] 32) = cpW i j g gg w from rfl]
  generalize cpW i j g gg w = w0 at *
  go_wp2_with fail
  go_at_call 25
  refine (Lookup_walk HM0.out HI.out i g).mono ?_
  rintro e w1 hh
  rcases hh with ⟨hnl, v, rfl, ⟨hv, hc, hb1⟩⟩ | ⟨hl, rfl, hb1⟩
  · have HB1 := hideIt (Below.thr HB0.out hb1)
    have HV1 := hideIt hv
    obtain ⟨be, rfl, _⟩ := hv
    clear hb1 x5 x6
    unfold inf7
    go_wp2_with fail
    go_ret
    exact MrPost.err (cpyX_dead hnl) ⟨HV1.out.below (by (repeat first | exact Below.refl _ _ | exact alloc_below _ | (refine Below.setCell ?_ (by first | exact Nat.le_refl _ | exact Nat.le_succ _ | (simp; done) | (simp; omega)) _) | (refine Below.alloc ?_ (by first | exact Nat.le_refl _ | (simp; done) | (simp; omega)) _))), hc, Below.thr HB1.out (by (repeat first | exact Below.refl _ _ | exact alloc_below _ | (refine Below.setCell ?_ (by first | exact Nat.le_refl _ | exact Nat.le_succ _ | (simp; done) | (simp; omega)) _) | (refine Below.alloc ?_ (by first | exact Nat.le_refl _ | (simp; done) | (simp; omega)) _)))⟩
  have hIE : ∃ x y bb z p q : Int, infS s i = inf7 x y (s.hd i).typ bb z p q := ⟨_, _, _, _, _, _, rfl⟩
  obtain ⟨x, y, bb, z, p, q, hIE⟩ := hIE
  rw [hIE]
  clear hIE
  have HLv := hideIt hl
  rw [ht]
  have HB1 := hideIt (Below.thr HB0.out hb1)
  have HM1 := hideIt (HM0.out.below hb1)
  have HK1 : Hid (Kd w1) := HK0.out.below hb1 HL0.out
  have HL1 : Hid (1 < w1.heap.size) := Nat.lt_of_lt_of_le HL0.out hb1.size
  have HX1 := hideIt (HX0.out.below hb1)
  obtain ⟨y0, y1, y2, y3⟩ := HX1.out.below (alloc_below (.cells #[.int .u16 x, .int .u32 y, .int .u8 5, .int .u64 bb, .int .u64 z, .int .u16 p, .int .u32 q] 41))
  clear hb1 x5 x6 hl HM0 HK0 HL0 HX0
  unfold inf7
  go_wp2_with fail
  go_at_call 197
  refine (get_at3 HM1.out HI.out HK1.out HL1.out i g (by (repeat first | exact Below.refl _ _ | exact alloc_below _ | (refine Below.setCell ?_ (by first | exact Nat.le_refl _ | exact Nat.le_succ _ | (simp; done) | (simp; omega)) _) | (refine Below.alloc ?_ (by first | exact Nat.le_refl _ | (simp; done) | (simp; omega)) _)))).mono ?_
  rintro e w2 ⟨hb2, hh⟩
  rcases hh with ⟨_, _, r, er, hr, rfl⟩ | ⟨hn, _⟩
  rotate_left
  · exact absurd ⟨HLv.out, ht⟩ hn
  have HB2 := hideIt (Below.thr HB1.out hb2)
  have HM2 := hideIt (HM1.out.below hb2)
  have HK2 : Hid (Kd w2) := HK1.out.below hb2 HL1.out
  have HL2 : Hid (1 < w2.heap.size) := Nat.lt_of_lt_of_le HL1.out hb2.size
  have HX2 := hideIt (HX1.out.below hb2)
  have HCE : Hid (updS s ws j gg 3 (fun _ => ws 3 r) = cpyX (ob s ws) i g j gg) := cpy_set HW.out HLv.out (by omega) ht er hr
  have HWt : Hid (Wt 3 (ws 3 r)) := (HW.out 3 r (by omega) hr).1
  obtain ⟨w3, hN⟩ := row_new (w := w2) (t := 3) (T := 121) (Z := #[.int .u64 0, .int .u16 0, .int .u16 0, .int .u16 0, .int .u32 0]) (by omega) rfl (by first | rfl | kernel_rfl) (ws 3 r)
  have HN := hideIt hN
  have HB3 := hideIt (Below.thr HB2.out hN.blw)
  have HM3 := hideIt (HM2.out.below hN.blw)
  have HK3 : Hid (Kd w3) := HK2.out.below hN.blw HL2.out
  have HL3 : Hid (1 < w3.heap.size) := Nat.lt_of_lt_of_le HL2.out hN.blw.size
  have HX3 := hideIt (HX2.out.below hN.blw)
  obtain ⟨y0, y1, y2, y3⟩ := HX3.out
  obtain ⟨d, hun, hd⟩ := row_un (t := 3) (by omega)
  have HUN : Hid (Tryz.prog.underlying 121 = some d) := hun
  have HD := hideIt hd
  have HST := hideIt (fun (W1 : World) (hb : Below w3.heap.size w3 W1) => set_at3 (W1 := W1) HM3.out HI.out HW.out HK3.out HL3.out j gg (ws 3 r) HWt.out hb)
  clear hN hun hd hb2 er hr HWt
  generalize rowL 3 (ws 3 r) = row at *
  go_wp2_with (first | (refine wpList_load_mid rfl 121 (.tmp 21) rfl w2.heap.size 0 rfl row d HN.out.rng HUN.out HD.out HN.out.sz ?_) | (refine wpList_store_mid rfl 121 (.tmp 21) (.tmp 110) rfl w2.heap.size 0 row.toArray rfl rfl HN.out.th (by rw [List.size_toArray]; exact HN.out.sz) (all_oneCell_toArray HN.out.one) ?_; rw [List.toList_toArray, HN.out.eq]))
  go_at_call 198
  refine (HST.out _ (by first | exact Below.refl _ _ | exact HB34.out)).mono ?_
  intro e w4 hh
  obtain ⟨vv, rfl⟩ := hh.ret
  have HH := hideIt (hh.from HB3.out)
  rw [HCE.out] at HH
  clear hh
  go_wp2_with fail
  go_ret
  exact HH.out
end
end Go.Proofs.Qxb6500847aGreatDoor.Os
