/-
  update[IRQHandler].
-/
import Derived.Test.Qxb6500847aGreatDoorOsUb
namespace Go.Proofs.Qxb6500847aGreatDoor.Os
open Go.RowKit FloorA
set_option maxRecDepth 100000
section
variable {A : Nat} {rb sb : Nat → Nat} {s : Av} {tl : Nat → List Int} {ws : Nat → Nat → Nat → Int} {w : World} {L : Nat → List Nat} {n : Nat}
set_option maxHeartbeats 8000000 in
theorem update_walk5 (h : Ms w A rb sb s tl ws) (hI : IV s tl L n) (hW : Wr ws) (hK : Kd w) (kl : 1 < w.heap.size) (i : Nat) (g : Int) (c : ByteArray) (F : (Nat → Int) → Nat → Int) (fn : Nat) (caps : Array Value) (hent : ∀ args W, (callFunc fn args).run Tryz.prog W = .ok (.enter fn args) W)
    (hch : ∀ (w1 : World) (b : Nat) (W : Nat → Int), Below w.heap.size w w1 → w.heap.size ≤ b → Wq 5 W → w1.rangeAt b 0 (rowL 5 W) → (∀ q, w1.frozen? ⟨b, q, none⟩ = false) → Calls Tryz.prog fn (#[.pointer (some ⟨b, 0, none⟩)] ++ caps) w1 (ChPost 5 b (F W) w1)) :
    Calls Tryz.prog 256 #[.pointer (some ⟨A, 0, none⟩), .pointer (some ⟨A, 2896, none⟩), .string c, .agg #[.int .u16 (i : Int), .int .u32 g], .int .u8 7, .func (.func fn) #[] caps] w (MrPost A rb sb s tl ws (updS s ws i g 5 F) w) := by
  have bB := alloc_below (w := w) (.cells #[.int .u16 (i : Int), .int .u32 g] 32)
  have hz : (w.alloc (.cells #[.int .u16 (i : Int), .int .u32 g] 32)).heap[w.heap.size]? = some (.cells #[.int .u16 (i : Int), .int .u32 g] 32 (0, 0)) := heap_new _ _
  have HM := hideIt (h.below bB)
  have HB := hideIt bB
  have HI := hideIt hI
  have HW : Hid (Wr ws) := hW
  have HK : Hid (Kd (w.alloc (.cells #[.int .u16 (i : Int), .int .u32 g] 32))) := hK.below bB kl
  have HZ := hideIt hz
  obtain ⟨d, hun, hd⟩ := row_un (t := 5) (by omega)
  have HUN : Hid (Tryz.prog.underlying 133 = some d) := hun
  have HD := hideIt hd
  have HSZ : Hid (∀ W, (Tryz.prog.info? 133).map (·.size) = some (rowL 5 W).length) := fun W => row_sz (t := 5) (by omega) W
  have HCH := hideIt hch
  have mV := mval5
  have eV := eval5
  clear h hI bB hW hK hch hz hun hd
  go_enter Tryz.func256, Tryz.ntmps256
  go_wp2_with fail
  generalize w.alloc (.cells #[.int .u16 (i : Int), .int .u32 g] 32) = w0 at *
  go_at_call 301
  refine (rowOf_walk5 HM.out HI.out.tb HK.out (Nat.lt_of_lt_of_le kl HB.out.size) i g c).mono ?_
  rintro e w1 ⟨hb1, hh⟩
  have HB1 := hideIt (Below.thr HB.out hb1)
  have HM1 := hideIt (HM.out.below hb1)
  have hz1 := (hb1.block w.heap.size (heap_lt HZ.out)).trans HZ.out
  have HZ1 := hideIt hz1
  have l0 : w.heap.size < w1.heap.size := heap_lt hz1
  clear hb1 hz1
  rcases hh with ⟨hl, ht, r, er, r1, rfl⟩ | ⟨hl, v, code, rfl, hc, hv, hs⟩
  · have HL := hideIt hl
    have HR1 : Hid (r < nR 5) := r1
    have HET : Hid ((s.hd i).typ = ((5 + 2 : Nat) : Int)) := ht
    have HER : Hid ((s.hd i).row = (r : Int)) := er
    have HRow := hideIt (HM1.out.row 5 (by omega) r r1)
    have HQ := hideIt (HW.out 5 r (by omega) r1)
    have hth := new_row (w := w1) (t := 5) (Z := #[.int .u8 0, .int .u16 0, .int .u32 0, .int .u64 0, .bool false]) rfl 133
    have hnn : ∀ W, (rowL 5 W).toArray.size = nC 5 := fun W => by rw [List.size_toArray, rowL_len]
    have HTh := hideIt (show (w1.alloc (.cells #[.int .u8 0, .int .u16 0, .int .u32 0, .int .u64 0, .bool false] 133)).there w1.heap.size 0 (rowL 5 (ws 5 r)).toArray.size from by rw [hnn]; exact hth)
    clear hnn
    have HR2 := hideIt (World.rangeAt_setCells_same (w1.alloc (.cells #[.int .u8 0, .int .u16 0, .int .u32 0, .int .u64 0, .bool false] 133)) w1.heap.size 0 (rowL 5 (ws 5 r)) (by rw [rowL_len]; exact hth))
    have hb2 := Below.cells (alloc_below (w := w1) (.cells #[.int .u8 0, .int .u16 0, .int .u32 0, .int .u64 0, .bool false] 133)) (Nat.le_refl _) (rowL 5 (ws 5 r)) 0
    have HF2 : Hid (∀ q, ((w1.alloc (.cells #[.int .u8 0, .int .u16 0, .int .u32 0, .int .u64 0, .bool false] 133)).setCells w1.heap.size 0 (rowL 5 (ws 5 r))).frozen? ⟨w1.heap.size, q, none⟩ = false) := fun q => by
      rw [World.frozen?_setCells]
      exact frz_new _ _ _ _
    generalize hw2 : (w1.alloc (.cells #[.int .u8 0, .int .u16 0, .int .u32 0, .int .u64 0, .bool false] 133)).setCells w1.heap.size 0 (rowL 5 (ws 5 r)) = w2 at *
    have HW2 := hideIt hw2
    clear hw2 hth hl ht er r1
    have HB2 := hideIt (Below.thr HB1.out hb2)
    have HM2 := hideIt (HM1.out.below hb2)
    have hz2 := (hb2.block w.heap.size (heap_lt HZ1.out)).trans HZ1.out
    have HZ2 := hideIt hz2
    have HC2 := hideIt (HCH.out w2 w1.heap.size (ws 5 r) HB2.out (Nat.le_of_lt l0) HQ.out HR2.out HF2.out)
    have HS0 := hideIt (HSZ.out (ws 5 r))
    have H1 := hideIt (row_one 5 (ws 5 r))
    clear hb2 hz2
    have HL0 := hideIt (show (rowL 5 (ws 5 r)).length = nC 5 from rowL_len 5 _)
    generalize rowL 5 (ws 5 r) = row at *
    generalize ho : r * nC 5 = o at *
    have HO := hideIt ho
    clear ho
    go_wp2_with (first | (refine wpList_load_mid rfl 133 (.tmp 29) rfl (rb 5) o rfl row d HRow.out HUN.out HD.out HS0.out ?_) | (refine wpList_store_mid rfl 133 (.tmp 15) (.tmp 30) rfl w1.heap.size 0 row.toArray rfl rfl HTh.out (by rw [List.size_toArray]; exact HS0.out) (all_oneCell_toArray H1.out) ?_; rw [List.toList_toArray, HW2.out]))
    refine HC2.out.mono ?_
    rintro e w3 ⟨rfl, hq3, hr3, x3⟩
    generalize hFW : F (ws 5 r) = W' at *
    have HFW := hideIt hFW
    clear hFW
    have hb3 := Ext.toBelow x3 HB2.out (Nat.le_of_lt l0) HB2.out.size
    have HM3 := hideIt (HM2.out.ext x3 (fun b hb e => absurd (HM1.out.tzlt b hb) (by rw [e]; exact Nat.lt_irrefl _)))
    have HZ3 := hideIt ((x3.block w.heap.size (heap_lt HZ2.out) (Nat.ne_of_lt l0)).trans HZ2.out)
    have HV := hideIt (valid5_walk hr3)
    have HQ3 : Hid (Wt 5 W') := hq3
    have HR3 := hideIt hr3
    have HB3 := hideIt hb3
    have l3 : w1.heap.size < w3.heap.size := Nat.lt_of_lt_of_le (cell_lt (HR2.out 0 _ (List.getElem?_eq_getElem (by rw [HL0.out]; decide)))) x3.size
    clear hq3 hr3 x3 hb3
    go_wp2_with fail
    refine HV.out.mono ?_
    rintro e w4 ⟨⟨q, rfl, hcv⟩, hb4⟩
    have HCV : Hid (q = true ↔ Wc 5 W') := hcv
    clear hcv
    have HB4 := hideIt (Below.thr HB3.out hb4)
    have HM4 := hideIt (HM3.out.below hb4)
    obtain ⟨z0, z1, _, _⟩ := two_cells ((hb4.block w.heap.size (heap_lt HZ3.out)).trans HZ3.out)
    have HR4 : Hid (w4.rangeAt w1.heap.size 0 (rowL 5 W')) := fun j v hv => (hb4.cell (p := ⟨w1.heap.size, 0 + j, none⟩) l3).trans (HR3.out j v hv)
    clear hb4
    cases q
    · go_wp2_with (go_at_call 123; refine (refuse_walk _ _ _ _ _ _).mono ?_; rintro e w5 ⟨v5, rfl, hv5, hb5⟩; have HF : Hid (MrPost A rb sb s tl ws (updS s ws i g 5 F) w (.returned v5) w5) := MrPost.err (updS_bad HL.out HET.out HER.out (by rw [HFW.out]; exact fun k => absurd (HCV.out.2 k) (by simp))) ⟨hv5, by omega, Below.thr HB4.out hb5⟩; clear hv5 hb5)
      exact bodyPost_ret (by simp [results, Tryz.results256]) rfl HF.out
    · have hth4 : w4.there (rb 5) o (nC 5) := fun j hj => by
        rw [← HO.out]
        exact ⟨(HM4.out.row 5 (by omega) r HR1.out).isSome j (by rw [rowL_len]; exact hj), HM4.out.rfz 5 (by omega) _⟩
      have hnn : (rowL 5 W').toArray.size = nC 5 := by rw [List.size_toArray, rowL_len]
      have HTh4 := hideIt (show w4.there (rb 5) o (rowL 5 W').toArray.size from by rw [hnn]; exact hth4)
      have hsame := World.rangeAt_setCells_same w4 (rb 5) o (rowL 5 W') (by rw [rowL_len]; exact hth4)
      have hmany := St1.many w4 (rb 5) o (rowL 5 W')
      rw [rowL_len] at hmany
      rw [← HO.out] at hsame hmany
      have HF : Hid (MrPost A rb sb s tl ws (updS s ws i g 5 F) w (.returned .nilIface) (w4.setCells (rb 5) (r * nC 5) (rowL 5 W'))) := row_suc HB4.out HM4.out HI.out HW.out HL.out.1 (by omega) HET.out HER.out HR1.out hmany hsame ⟨HQ3.out, HCV.out.1 (by first | rfl | trivial)⟩ ((updS_ok HL.out HET.out HER.out (by rw [HFW.out]; exact HCV.out.1 (by first | rfl | trivial))).trans (by rw [HFW.out]))
      rw [HO.out] at HF
      have HS4 := hideIt (HSZ.out W')
      have H14 := hideIt (row_one 5 W')
      clear hsame hmany hth4 hnn
      generalize hw5 : w4.setCells (rb 5) o (rowL 5 W') = w5 at *
      have HW5 := hideIt hw5
      clear hw5
      generalize rowL 5 W' = row' at *
      go_wp2_with (first | (refine wpList_load_mid rfl 133 (.tmp 15) rfl w1.heap.size 0 rfl row' d HR4.out HUN.out HD.out HS4.out ?_) | (refine wpList_store_mid rfl 133 (.tmp 41) (.tmp 40) rfl (rb 5) o row'.toArray rfl rfl HTh4.out (by rw [List.size_toArray]; exact HS4.out) (all_oneCell_toArray H14.out) ?_; rw [List.toList_toArray, HW5.out]))
      exact bodyPost_ret (by simp [results, Tryz.results256]) rfl HF.out
  · have HF : Hid (MrPost A rb sb s tl ws (updS s ws i g 5 F) w (.returned v) w1) := MrPost.err ((updS_err hl).trans (by rw [← hs])) ⟨hv, hc, HB1.out⟩
    obtain ⟨b, rfl, hbc⟩ := hv
    clear hbc hl hs
    go_wp2_with fail
    exact bodyPost_ret (by simp [results, Tryz.results256]) rfl HF.out
end
end Go.Proofs.Qxb6500847aGreatDoor.Os
