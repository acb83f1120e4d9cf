/-
  UpdateCell.
-/
import Derived.Test.Qxb6500847aGreatDoorOsTc
namespace Go.Proofs.Qxb6500847aGreatDoor.Os
open Go.RowKit FloorA
set_option maxRecDepth 100000
section
variable {A : Nat} {rb sb : Nat → Nat} {s : Av} {tl : Nat → List Int} {ws : Nat → Nat → Nat → Int} {w : World} {L : Nat → List Nat} {n : Nat}
/-- A change of the cell in block b. -/
def CcPost (b : Nat) (U : Nat → Int) (w : World) (e : Ending) (w' : World) : Prop := e = .returned (.tuple #[]) ∧ (∀ f, f < 7 → 0 ≤ U f ∧ U f < fMax 0 f) ∧ w'.rangeAt b 0 (cellL U 0) ∧ Ext w.heap.size (fun x => x = b) w w'
set_option maxHeartbeats 8000000 in
theorem UpdateCell_walk (h : Ms w A rb sb s tl ws) (hI : IV s tl L n) (hW : Wr ws) (hK : Kd w) (kl : 1 < w.heap.size) (i : Nat) (g : Int) {c : Nat} (hc : c < 16) (F : (Nat → Int) → Nat → Int) (fn : Nat) (caps : Array Value) (hent : ∀ args W, (callFunc fn args).run Tryz.prog W = .ok (.enter fn args) W)
    (hch : ∀ (w1 : World) (b : Nat) (W : Nat → Int), Below w.heap.size w w1 → w.heap.size ≤ b → (∀ f, f < 7 → 0 ≤ W f ∧ W f < fMax 0 f) → w1.rangeAt b 0 (cellL W 0) → (∀ q, w1.frozen? ⟨b, q, none⟩ = false) → Calls Tryz.prog fn (#[.pointer (some ⟨b, 0, none⟩)] ++ caps) w1 (CcPost b (F W) w1)) :
    Calls Tryz.prog 139 #[.pointer (some ⟨A, 0, none⟩), .agg #[.int .u16 (i : Int), .int .u32 g], .int .i64 (c : Int), .func (.func fn) #[] caps] w (MrPost A rb sb s tl ws (updS s ws i g 0 (fun W => putC W c (F (fun j => W (7 * c + j))))) w) := by
  have bD := Below.thr (alloc_below (w := w) (.cells #[.int .u16 (i : Int), .int .u32 g] 32)) (below_d _)
  have hz : (w.alloc (.cells #[.int .u16 (i : Int), .int .u32 g] 32)).heap[w.heap.size]? = some (.cells #[.int .u16 (i : Int), .int .u32 g] 32 (0, 0)) := heap_new _ _
  have HB := hideIt bD
  have HM0 := hideIt (h.below bD)
  have HK0 : Hid (Kd (w.alloc (.cells #[.int .u16 (i : Int), .int .u32 g] 32)).drew) := hK.below bD kl
  have HKl0 : Hid (1 < (w.alloc (.cells #[.int .u16 (i : Int), .int .u32 g] 32)).drew.heap.size) := Nat.lt_of_lt_of_le kl bD.size
  have hS0 := ref_agg hz
  have HI := hideIt hI
  have HW : Hid (Wr ws) := hW
  obtain ⟨d, hun, hd⟩ := cell_un
  have HUN := hideIt hun
  have HD := hideIt hd
  have c0 : decide ((c : Int) < 0) = false := decide_eq_false (by omega)
  have c1 : decide ((16 : Int) ≤ (c : Int)) = false := decide_eq_false (by omega)
  have c2 : (0 : Int) ≤ (c : Int) := by omega
  have c3 : (c : Int) < 16 := by omega
  have HCH := hideIt hch
  clear h hI bD hK hz hun hd hW hch
  go_enter Tryz.func139, Tryz.ntmps139
  go_wp2_with fail
  generalize w.alloc (.cells #[.int .u16 (i : Int), .int .u32 g] 32) = w0 at *
  refine wp_region_held_drew (S := (fun w' => w'.cell? ⟨w.heap.size, 0, none⟩ = some (.int .u16 (i : Int)) ∧ w'.cell? ⟨w.heap.size, 1, none⟩ = some (.int .u32 g))) (by kernel_rfl) hS0 (fun hHeld => ?_)
  refine anyH_do (i := 0) (d := some 13) (v := (.pointer (some ⟨A, 0, none⟩))) rfl (by kernel_rfl) (by kernel_rfl) (by kernel_rfl) (fun _ _ _ h => h) (by intro w hw; go_simp) hHeld ?_
  simp only [Act.put, List.setIfInBounds_toArray, List.set_cons_zero, List.set_cons_succ]
  refine anyH_do (i := 1) (d := some 14) (v := (.pointer (some ⟨A, 0, none⟩))) rfl (by kernel_rfl) (by kernel_rfl) (by kernel_rfl) (fun _ _ _ h => h) (by intro w hw; go_simp) hHeld ?_
  simp only [Act.put, List.setIfInBounds_toArray, List.set_cons_zero, List.set_cons_succ]
  refine anyH_do (i := 2) (d := some 15) (v := (.pointer (some ⟨A, 0, none⟩))) rfl (by kernel_rfl) (by kernel_rfl) (by kernel_rfl) (fun _ _ _ h => h) (by intro w hw; go_simp) hHeld ?_
  simp only [Act.put, List.setIfInBounds_toArray, List.set_cons_zero, List.set_cons_succ]
  refine anyH_do (i := 3) (d := some 16) (v := (.pointer (some ⟨A, 2886, none⟩))) rfl (by kernel_rfl) (by kernel_rfl) (by kernel_rfl) (fun _ _ _ h => h) (by intro w hw; go_simp) hHeld ?_
  simp only [Act.put, List.setIfInBounds_toArray, List.set_cons_zero, List.set_cons_succ]
  refine anyH_do (i := 4) (d := some 17) (v := (.agg #[.int .u16 (i : Int), .int .u32 g])) rfl (by kernel_rfl) (by kernel_rfl) (by kernel_rfl) (fun _ _ _ h => h) (by intro w hw; go_simp) hHeld ?_
  simp only [Act.put, List.setIfInBounds_toArray, List.set_cons_zero, List.set_cons_succ]
  refine anyH_call (i := 5) (d := some 18) (f := 249) (args := #[.pointer (some ⟨A, 0, none⟩), .pointer (some ⟨A, 2886, none⟩), .string { data := #[85, 112, 100, 97, 116, 101, 67, 101, 108, 108] }, .agg #[.int .u16 (i : Int), .int .u32 g], .int .u8 2]) rfl (by kernel_rfl) (by go_simp) ?_
  refine (rowOf_walk0 HM0.out HI.out.tb HK0.out HKl0.out i g _).mono ?_
  rintro e w1 ⟨hb1, hh⟩
  have hHeld1 : w1.cell? ⟨w.heap.size, 0, none⟩ = some (.int .u16 (i : Int)) ∧ w1.cell? ⟨w.heap.size, 1, none⟩ = some (.int .u32 g) := ⟨(hb1.cell (p := ⟨w.heap.size, 0, none⟩) (cell_lt hHeld.1)).trans hHeld.1, (hb1.cell (p := ⟨w.heap.size, 1, none⟩) (cell_lt hHeld.2)).trans hHeld.2⟩
  have HB1 := hideIt (Below.thr HB.out hb1)
  have HM1 := hideIt (HM0.out.below hb1)
  have l0 : w.heap.size < w1.heap.size := cell_lt hHeld1.1
  clear hb1 hHeld hS0
  rcases hh with ⟨hl, ht, r, er, r1, rfl⟩ | ⟨hl, v, code, rfl, hcd, hv, hs⟩
  · have hHeld := hHeld1
    refine ⟨_, rfl, hHeld, ?_⟩
    have HL := hideIt hl
    have HR1 : Hid (r < nR 0) := r1
    have HET : Hid ((s.hd i).typ = ((0 + 2 : Nat) : Int)) := ht
    have HER : Hid ((s.hd i).row = (r : Int)) := er
    have HRow := hideIt (cell_at (HM1.out.row 0 (by omega) r r1) hc)
    have hQ : ∀ f, f < 7 → 0 ≤ (fun j => ws 0 r (7 * c + j)) f ∧ (fun j => ws 0 r (7 * c + j)) f < fMax 0 f := fun f hf => by
      have := (HW.out 0 r (by omega) r1).1 (7 * c + f) (by show _ < 112; omega)
      rw [fMax0_mod, show (7 * c + f) % 7 = f by omega] at this
      exact this
    have HQ := hideIt hQ
    have hnew : (w1.alloc (.cells #[.int .u16 0, .int .u32 0, .int .u8 0, .int .u64 0, .int .u32 0, .int .u16 0, .int .u16 0, .int .u8 0] 98)).heap[w1.heap.size]? = some (.cells #[.int .u16 0, .int .u32 0, .int .u8 0, .int .u64 0, .int .u32 0, .int .u16 0, .int .u16 0, .int .u8 0] 98 (0, 0)) := heap_new _ _
    have hth := there_of hnew 8 (by simp)
    have HTh : Hid ((w1.alloc (.cells #[.int .u16 0, .int .u32 0, .int .u8 0, .int .u64 0, .int .u32 0, .int .u16 0, .int .u16 0, .int .u8 0] 98)).there w1.heap.size 0 (cellL (fun j => ws 0 r (7 * c + j)) 0).toArray.size) := hth
    have HR2 := hideIt (World.rangeAt_setCells_same (w1.alloc (.cells #[.int .u16 0, .int .u32 0, .int .u8 0, .int .u64 0, .int .u32 0, .int .u16 0, .int .u16 0, .int .u8 0] 98)) w1.heap.size 0 (cellL (fun j => ws 0 r (7 * c + j)) 0) hth)
    have hb2 := Below.cells (alloc_below (w := w1) (.cells #[.int .u16 0, .int .u32 0, .int .u8 0, .int .u64 0, .int .u32 0, .int .u16 0, .int .u16 0, .int .u8 0] 98)) (Nat.le_refl _) (cellL (fun j => ws 0 r (7 * c + j)) 0) 0
    have HF2 : Hid (∀ q, ((w1.alloc (.cells #[.int .u16 0, .int .u32 0, .int .u8 0, .int .u64 0, .int .u32 0, .int .u16 0, .int .u16 0, .int .u8 0] 98)).setCells w1.heap.size 0 (cellL (fun j => ws 0 r (7 * c + j)) 0)).frozen? ⟨w1.heap.size, q, none⟩ = false) := fun q => by
      rw [World.frozen?_setCells]
      exact frz_new _ _ _ _
    have HS0 := hideIt (cell_sz (fun j => ws 0 r (7 * c + j)))
    have H1 := hideIt (cell_one (fun j => ws 0 r (7 * c + j)))
    generalize hw2 : (w1.alloc (.cells #[.int .u16 0, .int .u32 0, .int .u8 0, .int .u64 0, .int .u32 0, .int .u16 0, .int .u16 0, .int .u8 0] 98)).setCells w1.heap.size 0 (cellL (fun j => ws 0 r (7 * c + j)) 0) = w2 at *
    have HW2 := hideIt hw2
    clear hw2 hth hl ht er r1 hnew hHeld1 hQ
    have HB2 := hideIt (Below.thr HB1.out hb2)
    have HM2 := hideIt (HM1.out.below hb2)
    obtain ⟨z0, z1⟩ := hHeld
    have z02 := (hb2.cell (p := ⟨w.heap.size, 0, none⟩) (cell_lt z0)).trans z0
    have z12 := (hb2.cell (p := ⟨w.heap.size, 1, none⟩) (cell_lt z1)).trans z1
    have HZ2 := hideIt (And.intro z02 z12)
    have HC2 := hideIt (HCH.out w2 w1.heap.size (fun j => ws 0 r (7 * c + j)) HB2.out (Nat.le_of_lt l0) HQ.out HR2.out HF2.out)
    have l2 : w1.heap.size < w2.heap.size := by
      have := HR2.out 0 _ rfl
      exact cell_lt this
    clear hb2 z02 z12
    generalize cellL (fun j => ws 0 r (7 * c + j)) 0 = row at *
    generalize hro : r * nC 0 = o at *
    have HRO := hideIt hro
    clear hro
    have hHeld := And.intro z0 z1
    simp only [Act.put, List.setIfInBounds_toArray, List.set_cons_zero, List.set_cons_succ]
    refine anyH_do (i := 6) (d := some 12) (v := (.tuple #[.pointer (some ⟨rb 0, o, none⟩), .nilIface])) rfl (by kernel_rfl) (by kernel_rfl) (by kernel_rfl) (fun _ _ _ h => h) (by intro w hw; go_simp) hHeld ?_
    simp only [Act.put, List.setIfInBounds_toArray, List.set_cons_zero, List.set_cons_succ]
    refine anyH_do (i := 7) (d := some 19) (v := (.pointer (some ⟨rb 0, o, none⟩))) rfl (by kernel_rfl) (by kernel_rfl) (by kernel_rfl) (fun _ _ _ h => h) (by intro w hw; go_simp) hHeld ?_
    simp only [Act.put, List.setIfInBounds_toArray, List.set_cons_zero, List.set_cons_succ]
    refine anyH_do (i := 8) (d := some 20) (v := (.nilIface)) rfl (by kernel_rfl) (by kernel_rfl) (by kernel_rfl) (fun _ _ _ h => h) (by intro w hw; go_simp) hHeld ?_
    simp only [Act.put, List.setIfInBounds_toArray, List.set_cons_zero, List.set_cons_succ]
    refine anyH_do (i := 9) (d := some 9) (v := (.pointer (some ⟨rb 0, o, none⟩))) rfl (by kernel_rfl) (by kernel_rfl) (by kernel_rfl) (fun _ _ _ h => h) (by intro w hw; go_simp) hHeld ?_
    simp only [Act.put, List.setIfInBounds_toArray, List.set_cons_zero, List.set_cons_succ]
    refine anyH_do (i := 10) (d := some 10) (v := (.nilIface)) rfl (by kernel_rfl) (by kernel_rfl) (by kernel_rfl) (fun _ _ _ h => h) (by intro w hw; go_simp) hHeld ?_
    simp only [Act.put, List.setIfInBounds_toArray, List.set_cons_zero, List.set_cons_succ]
    refine wpAnyH_done (by kernel_rfl) ?_ _
    go_wp2_with (first | (refine wpList_load_mid rfl 98 (.tmp 36) rfl (rb 0) (o + c * 8) rfl row d HRow.out HUN.out HD.out HS0.out ?_) | (refine wpList_store_mid rfl 98 (.tmp 11) (.tmp 37) rfl w1.heap.size 0 row.toArray rfl rfl HTh.out (by rw [List.size_toArray]; exact HS0.out) (all_oneCell_toArray H1.out) ?_; rw [List.toList_toArray, HW2.out]))
    refine HC2.out.mono ?_
    rintro e w3 ⟨rfl, hU3, hr3, x3⟩
    generalize hFW : F (fun j => ws 0 r (7 * c + j)) = U at *
    have HFW := hideIt hFW
    clear hFW
    have hb3 := Ext.toBelow x3 HB2.out (Nat.le_of_lt l0) HB2.out.size
    have HM3 := hideIt (HM2.out.ext x3 (fun b hb e => absurd (HM1.out.tzlt b hb) (by rw [e]; exact Nat.lt_irrefl _)))
    have z03 := (x3.cell (p := ⟨w.heap.size, 0, none⟩) (cell_lt HZ2.out.1) (Nat.ne_of_lt l0)).trans HZ2.out.1
    have z13 := (x3.cell (p := ⟨w.heap.size, 1, none⟩) (cell_lt HZ2.out.2) (Nat.ne_of_lt l0)).trans HZ2.out.2
    have HVl := hideIt (valid9_walk hr3)
    have HU3 : Hid (∀ f, f < 7 → 0 ≤ U f ∧ U f < fMax 0 f) := hU3
    have HR3 := hideIt hr3
    have HB3 := hideIt hb3
    have HZ3 := hideIt (And.intro z03 z13)
    have l3 : w1.heap.size < w3.heap.size := Nat.lt_of_lt_of_le l2 x3.size
    clear hU3 hr3 x3 hb3 z03 z13 z0 z1 hHeld
    go_wp2_with fail
    go_at_call 250
    refine HVl.out.mono ?_
    rintro e w4 ⟨⟨q, rfl, hcv⟩, hb4⟩
    have HCV : Hid (q = true ↔ ∀ f, f < 7 → cOk f (U f)) := hcv
    have HB4 := hideIt (Below.thr HB3.out hb4)
    have HM4 := hideIt (HM3.out.below hb4)
    have z04 := (hb4.cell (p := ⟨w.heap.size, 0, none⟩) (cell_lt HZ3.out.1)).trans HZ3.out.1
    have z14 := (hb4.cell (p := ⟨w.heap.size, 1, none⟩) (cell_lt HZ3.out.2)).trans HZ3.out.2
    have HR4 : Hid (w4.rangeAt w1.heap.size 0 (cellL U 0)) := fun j v hv => (hb4.cell (p := ⟨w1.heap.size, 0 + j, none⟩) l3).trans (HR3.out j v hv)
    clear hb4 hcv
    cases q
    · go_wp2_with (go_at_call 123; refine (refuse_walk _ _ _ _ _ _).mono ?_; rintro e w5 ⟨v5, rfl, hv5, hb5⟩; have HF : Hid (MrPost A rb sb s tl ws (updS s ws i g 0 (fun W => putC W c (F (fun j => W (7 * c + j))))) w (.returned v5) w5) := MrPost.err (updS_bad HL.out HET.out HER.out (by rw [HFW.out]; exact fun k => absurd (HCV.out.2 ((putC_wc (HW.out 0 r (by omega) HR1.out).2 hc).1 k)) (by simp))) ⟨hv5, by omega, Below.thr HB4.out hb5⟩; clear hv5 hb5)
      exact bodyPost_ret (by simp [results, Tryz.results139]) rfl HF.out
    · have HOK : Hid (∀ f, f < 7 → cOk f (U f)) := HCV.out.1 rfl
      have hM5 := HM4.out.below (below_d w4)
      have hrw := hM5.row 0 (by omega) r HR1.out
      have hth : w4.drew.there (rb 0) (r * nC 0 + c * 8) (cellL U 0).length := fun j hj => ⟨(cell_at hrw hc).isSome j hj, hM5.rfz 0 (by omega) _⟩
      have hs8 : St1 (rb 0) (r * nC 0 + c * 8) 8 w4.drew (w4.drew.setCells (rb 0) (r * nC 0 + c * 8) (cellL U 0)) := St1.many w4.drew (rb 0) (r * nC 0 + c * 8) (cellL U 0)
      have hsame := World.rangeAt_setCells_same w4.drew (rb 0) (r * nC 0 + c * 8) (cellL U 0) hth
      have hput := cell_put hrw hc hs8 hsame
      have HF : Hid (MrPost A rb sb s tl ws (updS s ws i g 0 (fun W => putC W c (F (fun j => W (7 * c + j))))) w (.returned .nilIface) (w4.drew.setCells (rb 0) (r * nC 0 + c * 8) (cellL U 0))) := row_suc (Below.thr HB4.out (below_d _)) hM5 HI.out HW.out HL.out.1 (by omega) HET.out HER.out HR1.out (hs8.mono (by omega) (by show _ ≤ r * nC 0 + 128; omega)) hput (putC_wq (HW.out 0 r (by omega) HR1.out) HU3.out HOK.out) ((updS_ok HL.out HET.out HER.out (by rw [HFW.out]; exact (putC_wc (HW.out 0 r (by omega) HR1.out).2 hc).2 HOK.out)).trans (by rw [HFW.out]))
      have hne : w1.heap.size ≠ rb 0 := fun q => absurd (HM1.out.rlt (t := 0) (by omega)) (by rw [← q]; exact Nat.lt_irrefl _)
      rw [HRO.out] at hth HF
      have HTh4 := hideIt hth
      have HS4 := hideIt (cell_sz U)
      have H14 := hideIt (cell_one U)
      have hR4 := HR4.out
      clear hM5 hrw hth hs8 hsame hput z04 z14
      generalize cellL U 0 = row' at *
      go_wp2_with fail
      refine wp_region_held_drew (S := (fun w' => w'.rangeAt w1.heap.size 0 row')) (by kernel_rfl) hR4 (fun hHeld => ?_)
      refine anyH_do (i := 0) (d := some 44) (v := (.pointer (some ⟨rb 0, o, none⟩))) rfl (by kernel_rfl) (by kernel_rfl) (by kernel_rfl) (fun _ _ _ h => h) (by intro w hw; go_simp) hHeld ?_
      simp only [Act.put, List.setIfInBounds_toArray, List.set_cons_zero, List.set_cons_succ]
      refine anyH_do (i := 1) (d := some 45) (v := (.int .i64 (c : Int))) rfl (by kernel_rfl) (by kernel_rfl) (by kernel_rfl) (fun _ _ _ h => h) (by intro w hw; go_simp) hHeld ?_
      simp only [Act.put, List.setIfInBounds_toArray, List.set_cons_zero, List.set_cons_succ]
      refine anyH_load (i := 2) (d := some 46) (cs := row') rfl rfl (by kernel_rfl) (by kernel_rfl) (by kernel_rfl) (fun _ _ _ h => h) (fun _ q => q) HUN.out HD.out HS4.out hHeld ?_
      simp only [Act.put, List.setIfInBounds_toArray, List.set_cons_zero, List.set_cons_succ]
      refine anyH_do (i := 3) (d := some 47) (v := (.pointer (some ⟨rb 0, o, none⟩))) rfl (by kernel_rfl) (by kernel_rfl) (by kernel_rfl) (fun _ _ _ h => h) (by intro w hw; go_simp) hHeld ?_
      simp only [Act.put, List.setIfInBounds_toArray, List.set_cons_zero, List.set_cons_succ]
      refine anyH_do (i := 4) (d := some 48) (v := (.pointer (some ⟨rb 0, o, none⟩))) rfl (by kernel_rfl) (by kernel_rfl) (by kernel_rfl) (fun _ _ _ h => h) (by intro w hw; go_simp) hHeld ?_
      simp only [Act.put, List.setIfInBounds_toArray, List.set_cons_zero, List.set_cons_succ]
      refine anyH_do (i := 5) (d := some 49) (v := (.pointer (some ⟨rb 0, o + c * 8, none⟩))) rfl (by kernel_rfl) (by kernel_rfl) (by kernel_rfl) (fun _ _ _ h => h) (by intro w hw; go_simp) hHeld ?_
      simp only [Act.put, List.setIfInBounds_toArray, List.set_cons_zero, List.set_cons_succ]
      refine anyH_store (i := 6) (cs := row') rfl rfl rfl (by kernel_rfl) (by kernel_rfl) HTh4.out HS4.out H14.out ?_ ?_
      · exact World.rangeAt_setCells_apart hHeld _ _ _ (Or.inl hne)
      · go_wp2_with fail
        exact bodyPost_ret (by simp [results, Tryz.results139]) rfl HF.out
  · have hHeld := hHeld1
    have HF : Hid (MrPost A rb sb s tl ws (updS s ws i g 0 (fun W => putC W c (F (fun j => W (7 * c + j))))) w (.returned v) w1) := MrPost.err ((updS_err hl).trans (by rw [← hs])) ⟨hv, hcd, HB1.out⟩
    obtain ⟨b, rfl, hbc⟩ := hv
    refine ⟨_, rfl, hHeld, ?_⟩
    clear hl hbc hs hcd hHeld1
    simp only [Act.put, List.setIfInBounds_toArray, List.set_cons_zero, List.set_cons_succ]
    refine anyH_do (i := 6) (d := some 12) (v := (.tuple #[.pointer none, .iface 212 (.pointer (some ⟨b, 0, none⟩))])) rfl (by kernel_rfl) (by kernel_rfl) (by kernel_rfl) (fun _ _ _ h => h) (by intro w hw; go_simp) hHeld ?_
    simp only [Act.put, List.setIfInBounds_toArray, List.set_cons_zero, List.set_cons_succ]
    refine anyH_do (i := 7) (d := some 19) (v := (.pointer none)) rfl (by kernel_rfl) (by kernel_rfl) (by kernel_rfl) (fun _ _ _ h => h) (by intro w hw; go_simp) hHeld ?_
    simp only [Act.put, List.setIfInBounds_toArray, List.set_cons_zero, List.set_cons_succ]
    refine anyH_do (i := 8) (d := some 20) (v := (.iface 212 (.pointer (some ⟨b, 0, none⟩)))) rfl (by kernel_rfl) (by kernel_rfl) (by kernel_rfl) (fun _ _ _ h => h) (by intro w hw; go_simp) hHeld ?_
    simp only [Act.put, List.setIfInBounds_toArray, List.set_cons_zero, List.set_cons_succ]
    refine anyH_do (i := 9) (d := some 9) (v := (.pointer none)) rfl (by kernel_rfl) (by kernel_rfl) (by kernel_rfl) (fun _ _ _ h => h) (by intro w hw; go_simp) hHeld ?_
    simp only [Act.put, List.setIfInBounds_toArray, List.set_cons_zero, List.set_cons_succ]
    refine anyH_do (i := 10) (d := some 10) (v := (.iface 212 (.pointer (some ⟨b, 0, none⟩)))) rfl (by kernel_rfl) (by kernel_rfl) (by kernel_rfl) (fun _ _ _ h => h) (by intro w hw; go_simp) hHeld ?_
    simp only [Act.put, List.setIfInBounds_toArray, List.set_cons_zero, List.set_cons_succ]
    refine wpAnyH_done (by kernel_rfl) ?_ _
    go_wp2_with fail
    exact bodyPost_ret (by simp [results, Tryz.results139]) rfl HF.out
end
end Go.Proofs.Qxb6500847aGreatDoor.Os
