/-
  SetCell.
-/
import Derived.Test.Qxb6500847aGreatDoorOsTb
namespace Go.Proofs.Qxb6500847aGreatDoor.Os
open Go.RowKit FloorA
set_option maxRecDepth 100000
section
variable {A : Nat} {rb sb : Nat → Nat} {s : Av} {tl : Nat → List Int} {ws : Nat → Nat → Nat → Int} {w : World} {L : Nat → List Nat} {n : Nat}
set_option maxHeartbeats 4000000 in
theorem valid9_true {b o : Nat} {W : Nat → Int} (hr : w.rangeAt b o (cellL W 0)) (hv : ∀ f, f < 7 → cOk f (W f)) :
    Calls Tryz.prog 250 #[.pointer (some ⟨b, o, none⟩)] w (fun e w' => e = .returned (.bool true) ∧ Below w.heap.size w w') := by
  have c0 : w.cell? ⟨b, o, none⟩ = some (.int .u16 (W 0 % 65536)) := hr 0 _ rfl
  have c1 : w.cell? ⟨b, o + 1, none⟩ = some (.int .u32 (W 0 / 65536)) := hr 1 _ rfl
  have c2 : w.cell? ⟨b, o + 2, none⟩ = some (.int .u8 (W 1)) := hr 2 _ rfl
  have c5 : w.cell? ⟨b, o + 5, none⟩ = some (.int .u16 (W 4)) := hr 5 _ rfl
  have c6 : w.cell? ⟨b, o + 6, none⟩ = some (.int .u16 (W 5)) := hr 6 _ rfl
  have g0 : decide (W 0 % 65536 < 320) = true := decide_eq_true ((hv 0 (by omega)).1 rfl)
  have g1 : decide (W 1 ≤ 15) = true := decide_eq_true ((hv 1 (by omega)).2.1 rfl)
  have g4 : decide (W 4 ≤ 4096) = true := decide_eq_true ((hv 4 (by omega)).2.2.1 rfl)
  have g5 : decide (W 5 ≤ 4096) = true := decide_eq_true ((hv 5 (by omega)).2.2.2 rfl)
  have lt : b < w.heap.size := cell_lt c0
  clear hr hv
  generalize W 0 % 65536 = x0 at *
  generalize W 0 / 65536 = y0 at *
  generalize W 1 = x1 at *
  generalize W 4 = x4 at *
  generalize W 5 = x5 at *
  go_enter Tryz.func250, Tryz.ntmps250
  go_wp2
  go_ret
  exact ⟨rfl, by first | exact Below.refl _ _ | exact alloc_below _ | exact Below.thr (alloc_below _) (alloc_below _)⟩
def ScPost (A : Nat) (rb sb : Nat → Nat) (s : Av) (tl : Nat → List Int) (ws : Nat → Nat → Nat → Int) (i : Nat) (g : Int) (c : Nat) (U : Nat → Int) (w : World) (e : Ending) (w' : World) : Prop :=
  (¬ (Live s i g ∧ (s.hd i).typ = ((0 + 2 : Nat) : Int)) ∧ ∃ v code, e = .returned v ∧ Refu w v w' code ∧ code = (if Live s i g then 3 else stale i g)) ∨ (Live s i g ∧ (s.hd i).typ = ((0 + 2 : Nat) : Int) ∧ e = .returned .nilIface ∧ ∃ r : Nat, (s.hd i).row = (r : Int) ∧ r < nR 0 ∧ Ms w' A rb sb s tl (updW ws 0 r (putC (ws 0 r) c U)) ∧ Wr (updW ws 0 r (putC (ws 0 r) c U)) ∧ Ext w.heap.size (Tz A rb sb) w w')
set_option maxHeartbeats 8000000 in
theorem SetCell_walk (h : Ms w A rb sb s tl ws) (hI : IV s tl L n) (hW : Wr ws) (hK : Kd w) (kl : 1 < w.heap.size) (i : Nat) (g : Int) {c : Nat} (hc : c < 16) (U : Nat → Int) (hU : ∀ f, f < 7 → 0 ≤ U f ∧ U f < fMax 0 f) (hok : ∀ f, f < 7 → cOk f (U f)) :
    Calls Tryz.prog 192 #[.pointer (some ⟨A, 0, none⟩), .agg #[.int .u16 (i : Int), .int .u32 g], .int .i64 (c : Int), .agg (cellL U 0).toArray] w (ScPost A rb sb s tl ws i g c U w) := by
  have bB := two_below (w := w) (.cells #[.int .u16 (i : Int), .int .u32 g] 32) (.cells (cellL U 0).toArray 98)
  have bD := Below.thr bB (below_d _)
  have hz : ((w.alloc (.cells #[.int .u16 (i : Int), .int .u32 g] 32)).alloc (.cells (cellL U 0).toArray 98)).heap[w.heap.size]? = some (.cells #[.int .u16 (i : Int), .int .u32 g] 32 (0, 0)) := (heap_alloc_old _ _ (by simp)).trans (heap_new _ _)
  have hz2 : ((w.alloc (.cells #[.int .u16 (i : Int), .int .u32 g] 32)).alloc (.cells (cellL U 0).toArray 98)).heap[w.heap.size + 1]? = some (.cells (cellL U 0).toArray 98 (0, 0)) := new_at _ _ (Deep.nblk_alloc _ _)
  have HB := hideIt bD
  have HNT : Hid (¬ Tz A rb sb (w.heap.size + 1)) := fun q => by have := h.tzlt _ q; omega
  have HM0 := hideIt (h.below bD)
  have HK0 : Hid (Kd ((w.alloc (.cells #[.int .u16 (i : Int), .int .u32 g] 32)).alloc (.cells (cellL U 0).toArray 98)).drew) := hK.below bD kl
  have HKl0 : Hid (1 < ((w.alloc (.cells #[.int .u16 (i : Int), .int .u32 g] 32)).alloc (.cells (cellL U 0).toArray 98)).drew.heap.size) := Nat.lt_of_lt_of_le kl bD.size
  have HZ2 := hideIt hz2
  have hS0 := ref_agg hz
  have HI := hideIt hI
  have HW : Hid (Wr ws) := hW
  obtain ⟨d, hun, hd⟩ := cell_un
  have HUN := hideIt hun
  have HD := hideIt hd
  have c0 : decide ((c : Int) < 0) = false := decide_eq_false (by omega)
  have c1 : decide ((16 : Int) ≤ (c : Int)) = false := decide_eq_false (by omega)
  have c2 : (0 : Int) ≤ (c : Int) := by omega
  have c3 : (c : Int) < 16 := by omega
  have HUU : Hid (∀ f, f < 7 → 0 ≤ U f ∧ U f < fMax 0 f) := hU
  have HOK : Hid (∀ f, f < 7 → cOk f (U f)) := hok
  have HS0 := hideIt (cell_sz U)
  have H1 := hideIt (cell_one U)
  clear h hI bB bD hK hz2 hz hun hd hW hU hok
  go_enter Tryz.func192, Tryz.ntmps192
  generalize hrow : cellL U 0 = row at *
  have HRW := hideIt hrow
  clear hrow
  go_wp2_with fail
  generalize (w.alloc (.cells #[.int .u16 (i : Int), .int .u32 g] 32)).alloc (.cells row.toArray 98) = w0 at *
  refine wp_region_held_drew (S := (fun w' => w'.cell? ⟨w.heap.size, 0, none⟩ = some (.int .u16 (i : Int)) ∧ w'.cell? ⟨w.heap.size, 1, none⟩ = some (.int .u32 g))) (by kernel_rfl) hS0 (fun hHeld => ?_)
  refine anyH_do (i := 0) (d := some 12) (v := (.pointer (some ⟨A, 0, none⟩))) rfl (by kernel_rfl) (by kernel_rfl) (by kernel_rfl) (fun _ _ _ h => h) (by intro w hw; go_simp) hHeld ?_
  simp only [Act.put, List.setIfInBounds_toArray, List.set_cons_zero, List.set_cons_succ]
  refine anyH_do (i := 1) (d := some 13) (v := (.pointer (some ⟨A, 0, none⟩))) rfl (by kernel_rfl) (by kernel_rfl) (by kernel_rfl) (fun _ _ _ h => h) (by intro w hw; go_simp) hHeld ?_
  simp only [Act.put, List.setIfInBounds_toArray, List.set_cons_zero, List.set_cons_succ]
  refine anyH_do (i := 2) (d := some 14) (v := (.pointer (some ⟨A, 0, none⟩))) rfl (by kernel_rfl) (by kernel_rfl) (by kernel_rfl) (fun _ _ _ h => h) (by intro w hw; go_simp) hHeld ?_
  simp only [Act.put, List.setIfInBounds_toArray, List.set_cons_zero, List.set_cons_succ]
  refine anyH_do (i := 3) (d := some 15) (v := (.pointer (some ⟨A, 2886, none⟩))) rfl (by kernel_rfl) (by kernel_rfl) (by kernel_rfl) (fun _ _ _ h => h) (by intro w hw; go_simp) hHeld ?_
  simp only [Act.put, List.setIfInBounds_toArray, List.set_cons_zero, List.set_cons_succ]
  refine anyH_do (i := 4) (d := some 16) (v := (.agg #[.int .u16 (i : Int), .int .u32 g])) rfl (by kernel_rfl) (by kernel_rfl) (by kernel_rfl) (fun _ _ _ h => h) (by intro w hw; go_simp) hHeld ?_
  simp only [Act.put, List.setIfInBounds_toArray, List.set_cons_zero, List.set_cons_succ]
  refine anyH_call (i := 5) (d := some 17) (f := 249) (args := #[.pointer (some ⟨A, 0, none⟩), .pointer (some ⟨A, 2886, none⟩), .string { data := #[83, 101, 116, 67, 101, 108, 108] }, .agg #[.int .u16 (i : Int), .int .u32 g], .int .u8 2]) rfl (by kernel_rfl) (by go_simp) ?_
  refine (rowOf_walk0 HM0.out HI.out.tb HK0.out HKl0.out i g _).mono ?_
  rintro e w1 ⟨hb1, hh⟩
  have hHeld1 : w1.cell? ⟨w.heap.size, 0, none⟩ = some (.int .u16 (i : Int)) ∧ w1.cell? ⟨w.heap.size, 1, none⟩ = some (.int .u32 g) := ⟨(hb1.cell (p := ⟨w.heap.size, 0, none⟩) (cell_lt hHeld.1)).trans hHeld.1, (hb1.cell (p := ⟨w.heap.size, 1, none⟩) (cell_lt hHeld.2)).trans hHeld.2⟩
  have HB1 := hideIt (Below.thr HB.out hb1)
  have HM1 := hideIt (HM0.out.below hb1)
  have HZ1 := hideIt ((hb1.block (w.heap.size + 1) (heap_lt (w := w0.drew) HZ2.out)).trans (show w0.drew.heap[w.heap.size + 1]? = _ from HZ2.out))
  clear hb1 hHeld hS0
  rcases hh with ⟨hl, ht, r, er, r1, rfl⟩ | ⟨hl, v, code, rfl, hcd, hv, hs⟩
  · have hHeld := hHeld1
    refine ⟨_, rfl, hHeld, ?_⟩
    have HL := hideIt hl
    have HR1 : Hid (r < nR 0) := r1
    have HET : Hid ((s.hd i).typ = ((0 + 2 : Nat) : Int)) := ht
    have HER : Hid ((s.hd i).row = (r : Int)) := er
    have hrow1 : w1.rangeAt (w.heap.size + 1) 0 (cellL U 0) := fun j v hv => by
      rw [Nat.zero_add, box_cell HZ1.out j, ← HRW.out]
      simpa using hv
    have HVl := hideIt (valid9_true hrow1 HOK.out)
    have HRo1 := hideIt hrow1
    clear hl ht er r1 hHeld1 hrow1
    generalize hro : r * nC 0 = o at *
    have HRO := hideIt hro
    clear hro
    simp only [Act.put, List.setIfInBounds_toArray, List.set_cons_zero, List.set_cons_succ]
    refine anyH_do (i := 6) (d := some 11) (v := (.tuple #[.pointer (some ⟨rb 0, o, none⟩), .nilIface])) rfl (by kernel_rfl) (by kernel_rfl) (by kernel_rfl) (fun _ _ _ h => h) (by intro w hw; go_simp) hHeld ?_
    simp only [Act.put, List.setIfInBounds_toArray, List.set_cons_zero, List.set_cons_succ]
    refine anyH_do (i := 7) (d := some 18) (v := (.pointer (some ⟨rb 0, o, none⟩))) rfl (by kernel_rfl) (by kernel_rfl) (by kernel_rfl) (fun _ _ _ h => h) (by intro w hw; go_simp) hHeld ?_
    simp only [Act.put, List.setIfInBounds_toArray, List.set_cons_zero, List.set_cons_succ]
    refine anyH_do (i := 8) (d := some 19) (v := (.nilIface)) rfl (by kernel_rfl) (by kernel_rfl) (by kernel_rfl) (fun _ _ _ h => h) (by intro w hw; go_simp) hHeld ?_
    simp only [Act.put, List.setIfInBounds_toArray, List.set_cons_zero, List.set_cons_succ]
    refine anyH_do (i := 9) (d := some 9) (v := (.pointer (some ⟨rb 0, o, none⟩))) rfl (by kernel_rfl) (by kernel_rfl) (by kernel_rfl) (fun _ _ _ h => h) (by intro w hw; go_simp) hHeld ?_
    simp only [Act.put, List.setIfInBounds_toArray, List.set_cons_zero, List.set_cons_succ]
    refine anyH_do (i := 10) (d := some 10) (v := (.nilIface)) rfl (by kernel_rfl) (by kernel_rfl) (by kernel_rfl) (fun _ _ _ h => h) (by intro w hw; go_simp) hHeld ?_
    simp only [Act.put, List.setIfInBounds_toArray, List.set_cons_zero, List.set_cons_succ]
    refine wpAnyH_done (by kernel_rfl) ?_ _
    go_wp2_with fail
    go_at_call 250
    refine HVl.out.mono ?_
    rintro e w2 ⟨rfl, hb2⟩
    have HB2 := hideIt (Below.thr (Below.thr HB1.out hb2) (below_d w2))
    have hM2 := (HM1.out.below hb2).below (below_d w2)
    have hR2 : w2.rangeAt (w.heap.size + 1) 0 row := fun j v hv => (hb2.cell (p := ⟨w.heap.size + 1, 0 + j, none⟩) (heap_lt HZ1.out)).trans (HRo1.out j v (by rw [HRW.out]; exact hv))
    have hrw := hM2.row 0 (by omega) r HR1.out
    have hth : w2.drew.there (rb 0) (o + c * 8) row.length := fun j hj => by
      rw [← HRW.out] at hj
      have hj8 : j < 8 := hj
      rw [← HRO.out]
      refine ⟨?_, hM2.rfz 0 (by omega) _⟩
      have := (cell_at hrw hc).isSome j (by exact hj8)
      exact this
    have hs8 : St1 (rb 0) (r * nC 0 + c * 8) 8 w2.drew (w2.drew.setCells (rb 0) (r * nC 0 + c * 8) (cellL U 0)) := St1.many w2.drew (rb 0) (r * nC 0 + c * 8) (cellL U 0)
    have hsame := World.rangeAt_setCells_same w2.drew (rb 0) (r * nC 0 + c * 8) (cellL U 0) (by rw [HRO.out, HRW.out]; exact hth)
    have hnew := cell_put hrw hc hs8 hsame
    have hM3 := hM2.turnRow (W := putC (ws 0 r) c U) (by omega) HR1.out (hs8.mono (by omega) (by show _ ≤ r * nC 0 + 128; omega)) hnew
    have HF : Hid (ScPost A rb sb s tl ws i g c U w (.returned .nilIface) (w2.drew.setCells (rb 0) (r * nC 0 + c * 8) (cellL U 0))) := Or.inr ⟨HL.out, HET.out, rfl, r, HER.out, HR1.out, hM3, HW.out.upd (putC_wq (HW.out 0 r (by omega) HR1.out) HUU.out HOK.out), (Ext.of_below HB2.out _).trans hs8.ext HB2.out.size (fun _ _ q => Or.inr ⟨0, by omega, Or.inl q⟩)⟩
    rw [HRO.out, HRW.out] at HF
    have hne : w.heap.size + 1 ≠ rb 0 := by
      have := HM0.out.rlt (t := 0) (by omega)
      intro q
      have h1 := HZ1.out
      have h2 := (HM1.out.row 0 (by omega) r HR1.out)
      exact HNT.out (by rw [q]; exact Or.inr ⟨0, by omega, Or.inl rfl⟩)
    have HTh := hideIt hth
    clear hb2 hM2 hrw hth hs8 hsame hnew hM3
    go_wp2_with fail
    clear hHeld
    refine wp_region_held_drew (S := (fun w' => w'.rangeAt (w.heap.size + 1) 0 row)) (by kernel_rfl) hR2 (fun hHeld => ?_)
    refine anyH_do (i := 0) (d := some 35) (v := (.pointer (some ⟨rb 0, o, none⟩))) rfl (by kernel_rfl) (by kernel_rfl) (by kernel_rfl) (fun _ _ _ h => h) (by intro w hw; go_simp) hHeld ?_
    simp only [Act.put, List.setIfInBounds_toArray, List.set_cons_zero, List.set_cons_succ]
    refine anyH_do (i := 1) (d := some 36) (v := (.int .i64 (c : Int))) rfl (by kernel_rfl) (by kernel_rfl) (by kernel_rfl) (fun _ _ _ h => h) (by intro w hw; go_simp) hHeld ?_
    simp only [Act.put, List.setIfInBounds_toArray, List.set_cons_zero, List.set_cons_succ]
    refine anyH_load (i := 2) (d := some 37) (cs := row) rfl rfl (by kernel_rfl) (by kernel_rfl) (by kernel_rfl) (fun _ _ _ h => h) (fun _ q => q) HUN.out HD.out HS0.out hHeld ?_
    simp only [Act.put, List.setIfInBounds_toArray, List.set_cons_zero, List.set_cons_succ]
    refine anyH_do (i := 3) (d := some 38) (v := (.pointer (some ⟨rb 0, o, none⟩))) rfl (by kernel_rfl) (by kernel_rfl) (by kernel_rfl) (fun _ _ _ h => h) (by intro w hw; go_simp) hHeld ?_
    simp only [Act.put, List.setIfInBounds_toArray, List.set_cons_zero, List.set_cons_succ]
    refine anyH_do (i := 4) (d := some 39) (v := (.pointer (some ⟨rb 0, o, none⟩))) rfl (by kernel_rfl) (by kernel_rfl) (by kernel_rfl) (fun _ _ _ h => h) (by intro w hw; go_simp) hHeld ?_
    simp only [Act.put, List.setIfInBounds_toArray, List.set_cons_zero, List.set_cons_succ]
    refine anyH_do (i := 5) (d := some 40) (v := (.pointer (some ⟨rb 0, o + c * 8, none⟩))) rfl (by kernel_rfl) (by kernel_rfl) (by kernel_rfl) (fun _ _ _ h => h) (by intro w hw; go_simp) hHeld ?_
    simp only [Act.put, List.setIfInBounds_toArray, List.set_cons_zero, List.set_cons_succ]
    refine anyH_store (i := 6) (cs := row) rfl rfl rfl (by kernel_rfl) (by kernel_rfl) HTh.out HS0.out H1.out ?_ ?_
    · exact World.rangeAt_setCells_apart hHeld _ _ _ (Or.inl hne)
    · go_wp2_with fail
      exact bodyPost_ret (by simp [results, Tryz.results192]) rfl HF.out
  · have hHeld := hHeld1
    have HF : Hid (ScPost A rb sb s tl ws i g c U w (.returned v) w1) := Or.inl ⟨hl, v, code, rfl, ⟨hv, hcd, HB1.out⟩, hs⟩
    obtain ⟨b, rfl, hbc⟩ := hv
    refine ⟨_, rfl, hHeld, ?_⟩
    clear hl hbc hs hcd hHeld1
    simp only [Act.put, List.setIfInBounds_toArray, List.set_cons_zero, List.set_cons_succ]
    refine anyH_do (i := 6) (d := some 11) (v := (.tuple #[.pointer none, .iface 212 (.pointer (some ⟨b, 0, none⟩))])) rfl (by kernel_rfl) (by kernel_rfl) (by kernel_rfl) (fun _ _ _ h => h) (by intro w hw; go_simp) hHeld ?_
    simp only [Act.put, List.setIfInBounds_toArray, List.set_cons_zero, List.set_cons_succ]
    refine anyH_do (i := 7) (d := some 18) (v := (.pointer none)) rfl (by kernel_rfl) (by kernel_rfl) (by kernel_rfl) (fun _ _ _ h => h) (by intro w hw; go_simp) hHeld ?_
    simp only [Act.put, List.setIfInBounds_toArray, List.set_cons_zero, List.set_cons_succ]
    refine anyH_do (i := 8) (d := some 19) (v := (.iface 212 (.pointer (some ⟨b, 0, none⟩)))) rfl (by kernel_rfl) (by kernel_rfl) (by kernel_rfl) (fun _ _ _ h => h) (by intro w hw; go_simp) hHeld ?_
    simp only [Act.put, List.setIfInBounds_toArray, List.set_cons_zero, List.set_cons_succ]
    refine anyH_do (i := 9) (d := some 9) (v := (.pointer none)) rfl (by kernel_rfl) (by kernel_rfl) (by kernel_rfl) (fun _ _ _ h => h) (by intro w hw; go_simp) hHeld ?_
    simp only [Act.put, List.setIfInBounds_toArray, List.set_cons_zero, List.set_cons_succ]
    refine anyH_do (i := 10) (d := some 10) (v := (.iface 212 (.pointer (some ⟨b, 0, none⟩)))) rfl (by kernel_rfl) (by kernel_rfl) (by kernel_rfl) (fun _ _ _ h => h) (by intro w hw; go_simp) hHeld ?_
    simp only [Act.put, List.setIfInBounds_toArray, List.set_cons_zero, List.set_cons_succ]
    refine wpAnyH_done (by kernel_rfl) ?_ _
    go_wp2_with fail
    exact bodyPost_ret (by simp [results, Tryz.results192]) rfl HF.out
end
end Go.Proofs.Qxb6500847aGreatDoor.Os
