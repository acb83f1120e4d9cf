/-
  Notification: the getter, the setter, the updater.
-/
import Derived.Test.Qxb6500847aGreatDoorOsRd3
import Derived.Test.Qxb6500847aGreatDoorOsUc3
import Derived.Test.Qxb6500847aGreatDoorOsRh
namespace Go.Proofs.Qxb6500847aGreatDoor.Os
open Go.RowKit FloorA
set_option maxRecDepth 100000
section
variable {A : Nat} {rb sb : Nat → Nat} {s : Av} {tl : Nat → List Int} {ws : Nat → Nat → Nat → Int} {w : World} {L : Nat → List Nat} {n : Nat}
set_option maxHeartbeats 8000000 in
theorem get_walk3 (h : Ms w A rb sb s tl ws) (hI : IV s tl L n) (hK : Kd w) (kl : 1 < w.heap.size) (i : Nat) (g : Int) :
    Calls Tryz.prog 197 #[.pointer (some ⟨A, 0, none⟩), .agg #[.int .u16 (i : Int), .int .u32 g]] w (RdPost 3 s ws i g w) := by
  have bB := two_below (w := w) (.cells #[.int .u16 (i : Int), .int .u32 g] 32) (.cells #[.int .u64 0, .int .u16 0, .int .u16 0, .int .u16 0, .int .u32 0] 121)
  have hz : ((w.alloc (.cells #[.int .u16 (i : Int), .int .u32 g] 32)).alloc (.cells #[.int .u64 0, .int .u16 0, .int .u16 0, .int .u16 0, .int .u32 0] 121)).heap[w.heap.size]? = some (.cells #[.int .u16 (i : Int), .int .u32 g] 32 (0, 0)) := (heap_alloc_old _ _ (by simp)).trans (heap_new _ _)
  have hz2 : ((w.alloc (.cells #[.int .u16 (i : Int), .int .u32 g] 32)).alloc (.cells #[.int .u64 0, .int .u16 0, .int .u16 0, .int .u16 0, .int .u32 0] 121)).heap[w.heap.size + 1]? = some (.cells (zeT 3) 121 (0, 0)) := new_at _ _ (Deep.nblk_alloc _ _)
  have HB := hideIt (Below.thr bB (below_d _))
  have HRd := hideIt (read_walk3 (h.below (Below.thr bB (below_d _))) hI ((hK.below bB kl).below (below_d _) (Nat.lt_of_lt_of_le kl bB.size)) (Nat.lt_of_lt_of_le kl (Below.thr bB (below_d _)).size) i g ({ data := #[78, 111, 116, 105, 102, 105, 99, 97, 116, 105, 111, 110] }))
  have HZ2 := hideIt hz2
  have hS0 := ref_agg hz
  have HSZ : Hid (∀ W, (Tryz.prog.info? 121).map (·.size) = some (rowL 3 W).length) := fun W => row_sz (t := 3) (by omega) W
  clear h hI bB hK hz2 hz
  go_enter Tryz.func197, Tryz.ntmps197
  go_wp2_with fail
  generalize (w.alloc (.cells #[.int .u16 (i : Int), .int .u32 g] 32)).alloc (.cells #[.int .u64 0, .int .u16 0, .int .u16 0, .int .u16 0, .int .u32 0] 121) = w0 at *
  refine wp_region_held_drew (S := (fun w' => w'.cell? ⟨w.heap.size, 0, none⟩ = some (.int .u16 (i : Int)) ∧ w'.cell? ⟨w.heap.size, 1, none⟩ = some (.int .u32 g))) (by kernel_rfl) hS0 (fun hHeld => ?_)
  refine anyH_do (i := 0) (d := some 6) (v := (.pointer (some ⟨A, 0, none⟩))) rfl (by kernel_rfl) (by kernel_rfl) (by kernel_rfl) (fun _ _ _ h => h) (by intro w hw; go_simp) hHeld ?_
  simp only [Act.put, List.setIfInBounds_toArray, List.set_cons_zero, List.set_cons_succ]
  refine anyH_do (i := 1) (d := some 7) (v := (.pointer (some ⟨A, 0, none⟩))) rfl (by kernel_rfl) (by kernel_rfl) (by kernel_rfl) (fun _ _ _ h => h) (by intro w hw; go_simp) hHeld ?_
  simp only [Act.put, List.setIfInBounds_toArray, List.set_cons_zero, List.set_cons_succ]
  refine anyH_do (i := 2) (d := some 8) (v := (.pointer (some ⟨A, 0, none⟩))) rfl (by kernel_rfl) (by kernel_rfl) (by kernel_rfl) (fun _ _ _ h => h) (by intro w hw; go_simp) hHeld ?_
  simp only [Act.put, List.setIfInBounds_toArray, List.set_cons_zero, List.set_cons_succ]
  refine anyH_do (i := 3) (d := some 9) (v := (.pointer (some ⟨A, 2892, none⟩))) rfl (by kernel_rfl) (by kernel_rfl) (by kernel_rfl) (fun _ _ _ h => h) (by intro w hw; go_simp) hHeld ?_
  simp only [Act.put, List.setIfInBounds_toArray, List.set_cons_zero, List.set_cons_succ]
  refine anyH_do (i := 4) (d := some 10) (v := (.agg #[.int .u16 (i : Int), .int .u32 g])) rfl (by kernel_rfl) (by kernel_rfl) (by kernel_rfl) (fun _ _ _ h => h) (by intro w hw; go_simp) hHeld ?_
  simp only [Act.put, List.setIfInBounds_toArray, List.set_cons_zero, List.set_cons_succ]
  refine anyH_call (i := 5) (d := some 11) (f := 266) (args := #[.pointer (some ⟨A, 0, none⟩), .pointer (some ⟨A, 2892, none⟩), .string { data := #[78, 111, 116, 105, 102, 105, 99, 97, 116, 105, 111, 110] }, .agg #[.int .u16 (i : Int), .int .u32 g], .int .u8 5]) rfl (by kernel_rfl) (by go_simp) ?_
  refine HRd.out.mono ?_
  rintro e w1 ⟨hb1, hh⟩
  have hHeld1 : w1.cell? ⟨w.heap.size, 0, none⟩ = some (.int .u16 (i : Int)) ∧ w1.cell? ⟨w.heap.size, 1, none⟩ = some (.int .u32 g) := ⟨(hb1.cell (p := ⟨w.heap.size, 0, none⟩) (cell_lt hHeld.1)).trans hHeld.1, (hb1.cell (p := ⟨w.heap.size, 1, none⟩) (cell_lt hHeld.2)).trans hHeld.2⟩
  have HB1 := hideIt (Below.thr HB.out hb1)
  have hz1 := (hb1.block (w.heap.size + 1) (heap_lt (w := w0.drew) HZ2.out)).trans (show w0.drew.heap[w.heap.size + 1]? = _ from HZ2.out)
  have HZ1 := hideIt hz1
  clear hb1 hz1 hHeld hS0
  rcases hh with ⟨hl, ht, r, er, r1, rfl⟩ | ⟨hl, v, code, rfl, hc, hv, hs⟩
  · have hHeld := hHeld1
    refine ⟨_, rfl, hHeld, ?_⟩
    have hth := row_there (t := 3) (by omega) HZ1.out (ws 3 r)
    have HS0 := hideIt (HSZ.out (ws 3 r))
    have H1 := hideIt (row_one 3 (ws 3 r))
    have hRow2 := World.rangeAt_setCells_same w1 (w.heap.size + 1) 0 (rowL 3 (ws 3 r)) hth
    have HLv := hideIt (loadVar_row (t := 3) (by omega) hRow2)
    have HTh := hideIt hth
    have HF : Hid (RdPost 3 s ws i g w (.returned (.tuple #[.agg (rowL 3 (ws 3 r)).toArray, .nilIface])) (w1.setCells (w.heap.size + 1) 0 (rowL 3 (ws 3 r)))) := ⟨Below.cells HB1.out (by omega) _ _, Or.inl ⟨hl, ht, r, er, r1, rfl⟩⟩
    clear hl ht er r1 hth hRow2 hHeld1
    generalize rowL 3 (ws 3 r) = row at *
    simp only [Act.put, List.setIfInBounds_toArray, List.set_cons_zero, List.set_cons_succ]
    refine anyH_do (i := 6) (d := some 12) (v := (.agg (row).toArray)) rfl (by kernel_rfl) (by kernel_rfl) (by kernel_rfl) (fun _ _ _ h => h) (by intro w hw; go_simp) hHeld ?_
    simp only [Act.put, List.setIfInBounds_toArray, List.set_cons_zero, List.set_cons_succ]
    refine anyH_do (i := 7) (d := some 13) (v := (.nilIface)) rfl (by kernel_rfl) (by kernel_rfl) (by kernel_rfl) (fun _ _ _ h => h) (by intro w hw; go_simp) hHeld ?_
    simp only [Act.put, List.setIfInBounds_toArray, List.set_cons_zero, List.set_cons_succ]
    have hHeld1 : (w1.setCells (w.heap.size + 1) 0 row).cell? ⟨w.heap.size, 0, none⟩ = some (.int .u16 (i : Int)) ∧ (w1.setCells (w.heap.size + 1) 0 row).cell? ⟨w.heap.size, 1, none⟩ = some (.int .u32 g) := ⟨(World.cell?_setCells_out _ _ _ _ _ (fun q _ => absurd q (by simp))).trans hHeld.1, (World.cell?_setCells_out _ _ _ _ _ (fun q _ => absurd q (by simp))).trans hHeld.2⟩
    refine anyH_storeK (i := 8) (cs := row) rfl rfl rfl (by kernel_rfl) HTh.out HS0.out H1.out hHeld1 ?_
    clear hHeld
    have hHeld := hHeld1
    clear hHeld1
    generalize w1.setCells (w.heap.size + 1) 0 row = w2 at *
    refine anyH_do (i := 9) (d := some 5) (v := (.nilIface)) rfl (by kernel_rfl) (by kernel_rfl) (by kernel_rfl) (fun _ _ _ h => h) (by intro w hw; go_simp) hHeld ?_
    simp only [Act.put, List.setIfInBounds_toArray, List.set_cons_zero, List.set_cons_succ]
    refine wpAnyH_done (by kernel_rfl) ?_ _
    · go_wp2_with fail
      exact bodyPost_ret (results_two (by exact Tryz.results197) _ _ (w.heap.size + 1) _ _ (by rfl) (by rfl) HLv.out) rfl HF.out
  · have hHeld := hHeld1
    obtain ⟨b, rfl, hbc⟩ := hv
    refine ⟨_, rfl, hHeld, ?_⟩
    have hth := row_there (t := 3) (by omega) HZ1.out (fun _ => 0)
    have HS0 := hideIt (HSZ.out (fun _ => 0))
    have H1 := hideIt (row_one 3 (fun _ => 0))
    have hRow2 := World.rangeAt_setCells_same w1 (w.heap.size + 1) 0 (rowL 3 (fun _ => 0)) hth
    have HLv := hideIt (loadVar_row (t := 3) (by omega) hRow2)
    have HTh := hideIt hth
    have hb2 : b ≠ w.heap.size + 1 := fun e => by
      subst e
      have := hbc
      rw [zero_new (t := 3) (by omega) HZ1.out 0 _ rfl] at this
      cases this
    have hbc2 : (w1.setCells (w.heap.size + 1) 0 (rowL 3 (fun _ => 0))).cell? ⟨b, 0, none⟩ = some (.int .u8 code) := by
      rw [World.cell?_setCells_out _ _ _ _ _ (fun q _ => absurd q hb2)]
      exact hbc
    have HF : Hid (RdPost 3 s ws i g w (.returned (.tuple #[.agg (rowL 3 (fun _ => 0)).toArray, .iface 212 (.pointer (some ⟨b, 0, none⟩))])) (w1.setCells (w.heap.size + 1) 0 (rowL 3 (fun _ => 0)))) := ⟨Below.cells HB1.out (by omega) _ _, Or.inr ⟨hl, _, code, rfl, hc, ⟨b, rfl, hbc2⟩, hs⟩⟩
    clear hl hbc hbc2 hb2 hs hc hth hRow2 hHeld1
    generalize rowL 3 (fun _ => 0) = row at *
    simp only [Act.put, List.setIfInBounds_toArray, List.set_cons_zero, List.set_cons_succ]
    refine anyH_do (i := 6) (d := some 12) (v := (.agg (row).toArray)) rfl (by kernel_rfl) (by kernel_rfl) (by kernel_rfl) (fun _ _ _ h => h) (by intro w hw; go_simp) hHeld ?_
    simp only [Act.put, List.setIfInBounds_toArray, List.set_cons_zero, List.set_cons_succ]
    refine anyH_do (i := 7) (d := some 13) (v := (.iface 212 (.pointer (some ⟨b, 0, none⟩)))) rfl (by kernel_rfl) (by kernel_rfl) (by kernel_rfl) (fun _ _ _ h => h) (by intro w hw; go_simp) hHeld ?_
    simp only [Act.put, List.setIfInBounds_toArray, List.set_cons_zero, List.set_cons_succ]
    have hHeld1 : (w1.setCells (w.heap.size + 1) 0 row).cell? ⟨w.heap.size, 0, none⟩ = some (.int .u16 (i : Int)) ∧ (w1.setCells (w.heap.size + 1) 0 row).cell? ⟨w.heap.size, 1, none⟩ = some (.int .u32 g) := ⟨(World.cell?_setCells_out _ _ _ _ _ (fun q _ => absurd q (by simp))).trans hHeld.1, (World.cell?_setCells_out _ _ _ _ _ (fun q _ => absurd q (by simp))).trans hHeld.2⟩
    refine anyH_storeK (i := 8) (cs := row) rfl rfl rfl (by kernel_rfl) HTh.out HS0.out H1.out hHeld1 ?_
    clear hHeld
    have hHeld := hHeld1
    clear hHeld1
    generalize w1.setCells (w.heap.size + 1) 0 row = w2 at *
    refine anyH_do (i := 9) (d := some 5) (v := (.iface 212 (.pointer (some ⟨b, 0, none⟩)))) rfl (by kernel_rfl) (by kernel_rfl) (by kernel_rfl) (fun _ _ _ h => h) (by intro w hw; go_simp) hHeld ?_
    simp only [Act.put, List.setIfInBounds_toArray, List.set_cons_zero, List.set_cons_succ]
    refine wpAnyH_done (by kernel_rfl) ?_ _
    · go_wp2_with fail
      exact bodyPost_ret (results_two (by exact Tryz.results197) _ _ (w.heap.size + 1) _ _ (by rfl) (by rfl) HLv.out) rfl HF.out
set_option maxHeartbeats 8000000 in
theorem set_walk3 (h : Ms w A rb sb s tl ws) (hI : IV s tl L n) (hW : Wr ws) (hK : Kd w) (kl : 1 < w.heap.size) (i : Nat) (g : Int) (W : Nat → Int) (hq : Wt 3 W) :
    Calls Tryz.prog 198 #[.pointer (some ⟨A, 0, none⟩), .agg #[.int .u16 (i : Int), .int .u32 g], .agg (rowL 3 W).toArray] w (MrPost A rb sb s tl ws (updS s ws i g 3 (fun _ => W)) w) := by
  have bB := Below.thr (two_below (w := w) (.cells #[.int .u16 (i : Int), .int .u32 g] 32) (.cells (rowL 3 W).toArray 121)) (below_d _)
  have hz : ((w.alloc (.cells #[.int .u16 (i : Int), .int .u32 g] 32)).alloc (.cells (rowL 3 W).toArray 121)).heap[w.heap.size]? = some (.cells #[.int .u16 (i : Int), .int .u32 g] 32 (0, 0)) := (heap_alloc_old _ _ (by simp)).trans (heap_new _ _)
  have hz2 : ((w.alloc (.cells #[.int .u16 (i : Int), .int .u32 g] 32)).alloc (.cells (rowL 3 W).toArray 121)).heap[w.heap.size + 1]? = some (.cells (rowL 3 W).toArray 121 (0, 0)) := new_at _ _ (Deep.nblk_alloc _ _)
  have hrow := box_row (w := ((w.alloc (.cells #[.int .u16 (i : Int), .int .u32 g] 32)).alloc (.cells (rowL 3 W).toArray 121)).drew) hz2
  have HVl := hideIt (valid3_walk hrow)
  have HW1 := hideIt (fun (w1 : World) (k : Below ((w.alloc (.cells #[.int .u16 (i : Int), .int .u32 g] 32)).alloc (.cells (rowL 3 W).toArray 121)).drew.heap.size ((w.alloc (.cells #[.int .u16 (i : Int), .int .u32 g] 32)).alloc (.cells (rowL 3 W).toArray 121)).drew w1) (q : Bool) (hc : q = true ↔ Wc 3 W) => write_walk3 ((h.below bB).below k) hI hW ((hK.below bB kl).below k (Nat.lt_of_lt_of_le kl bB.size)) (Nat.lt_of_lt_of_le kl (Below.thr bB k).size) i g ({ data := #[83, 101, 116, 78, 111, 116, 105, 102, 105, 99, 97, 116, 105, 111, 110] }) (w.heap.size + 1) W q (fun j v hv => (k.cell (p := ⟨w.heap.size + 1, 0 + j, none⟩) (heap_lt (w := ((w.alloc (.cells #[.int .u16 (i : Int), .int .u32 g] 32)).alloc (.cells (rowL 3 W).toArray 121)).drew) hz2)).trans (hrow j v hv)) hq hc)
  have HB := hideIt bB
  have HNT := hideIt h.ntz
  have hS0 := ref_agg hz
  clear h hI bB hK hz hW hz2 hrow hq
  generalize rowL 3 W = row at *
  go_enter Tryz.func198, Tryz.ntmps198
  go_wp2_with fail
  generalize (w.alloc (.cells #[.int .u16 (i : Int), .int .u32 g] 32)).alloc (.cells row.toArray 121) = w0 at *
  refine wp_region_held_drew (S := (fun w' => w'.cell? ⟨w.heap.size, 0, none⟩ = some (.int .u16 (i : Int)) ∧ w'.cell? ⟨w.heap.size, 1, none⟩ = some (.int .u32 g))) (by kernel_rfl) hS0 (fun hHeld => ?_)
  refine anyH_do (i := 0) (d := some 7) (v := (.pointer (some ⟨A, 0, none⟩))) rfl (by kernel_rfl) (by kernel_rfl) (by kernel_rfl) (fun _ _ _ h => h) (by intro w hw; go_simp) hHeld ?_
  simp only [Act.put, List.setIfInBounds_toArray, List.set_cons_zero, List.set_cons_succ]
  refine anyH_do (i := 1) (d := some 8) (v := (.pointer (some ⟨A, 0, none⟩))) rfl (by kernel_rfl) (by kernel_rfl) (by kernel_rfl) (fun _ _ _ h => h) (by intro w hw; go_simp) hHeld ?_
  simp only [Act.put, List.setIfInBounds_toArray, List.set_cons_zero, List.set_cons_succ]
  refine anyH_do (i := 2) (d := some 9) (v := (.pointer (some ⟨A, 0, none⟩))) rfl (by kernel_rfl) (by kernel_rfl) (by kernel_rfl) (fun _ _ _ h => h) (by intro w hw; go_simp) hHeld ?_
  simp only [Act.put, List.setIfInBounds_toArray, List.set_cons_zero, List.set_cons_succ]
  refine anyH_do (i := 3) (d := some 10) (v := (.pointer (some ⟨A, 2892, none⟩))) rfl (by kernel_rfl) (by kernel_rfl) (by kernel_rfl) (fun _ _ _ h => h) (by intro w hw; go_simp) hHeld ?_
  simp only [Act.put, List.setIfInBounds_toArray, List.set_cons_zero, List.set_cons_succ]
  refine anyH_do (i := 4) (d := some 11) (v := (.agg #[.int .u16 (i : Int), .int .u32 g])) rfl (by kernel_rfl) (by kernel_rfl) (by kernel_rfl) (fun _ _ _ h => h) (by intro w hw; go_simp) hHeld ?_
  simp only [Act.put, List.setIfInBounds_toArray, List.set_cons_zero, List.set_cons_succ]
  refine anyH_call (i := 5) (d := some 12) (f := 268) (args := #[.pointer (some ⟨w.heap.size + 1, 0, none⟩)]) rfl (by kernel_rfl) (by go_simp) ?_
  refine HVl.out.mono ?_
  rintro e w1 ⟨⟨q, rfl, hcv⟩, hb1⟩
  have HWr := hideIt (HW1.out w1 hb1 q hcv)
  have HB1 := hideIt (Below.thr HB.out hb1)
  have hHeld1 : w1.cell? ⟨w.heap.size, 0, none⟩ = some (.int .u16 (i : Int)) ∧ w1.cell? ⟨w.heap.size, 1, none⟩ = some (.int .u32 g) := ⟨(hb1.cell (p := ⟨w.heap.size, 0, none⟩) (cell_lt hHeld.1)).trans hHeld.1, (hb1.cell (p := ⟨w.heap.size, 1, none⟩) (cell_lt hHeld.2)).trans hHeld.2⟩
  clear hHeld hS0 hcv hb1
  refine ⟨_, rfl, hHeld1, ?_⟩
  have hHeld := hHeld1
  clear hHeld1
  simp only [Act.put, List.setIfInBounds_toArray, List.set_cons_zero, List.set_cons_succ]
  refine anyH_call (i := 6) (d := some 13) (f := 267) (args := #[.pointer (some ⟨A, 0, none⟩), .pointer (some ⟨A, 2892, none⟩), .string { data := #[83, 101, 116, 78, 111, 116, 105, 102, 105, 99, 97, 116, 105, 111, 110] }, .agg #[.int .u16 (i : Int), .int .u32 g], .int .u8 5, .pointer (some ⟨w.heap.size + 1, 0, none⟩), .bool q]) rfl (by kernel_rfl) (by go_simp) ?_
  refine HWr.out.mono ?_
  rintro e w2 hh
  obtain ⟨v, rfl⟩ := hh.ret
  have hHeld1 : w2.cell? ⟨w.heap.size, 0, none⟩ = some (.int .u16 (i : Int)) ∧ w2.cell? ⟨w.heap.size, 1, none⟩ = some (.int .u32 g) := ⟨(hh.frame.cell (p := ⟨w.heap.size, 0, none⟩) (cell_lt hHeld.1) HNT.out).trans hHeld.1, (hh.frame.cell (p := ⟨w.heap.size, 1, none⟩) (cell_lt hHeld.2) HNT.out).trans hHeld.2⟩
  have HF := hideIt (hh.from HB1.out)
  clear hHeld hh
  have hHeld := hHeld1
  refine ⟨_, rfl, hHeld, ?_⟩
  clear hHeld1
  simp only [Act.put, List.setIfInBounds_toArray, List.set_cons_zero, List.set_cons_succ]
  refine anyH_do (i := 7) (d := some 6) (v := (v)) rfl (by kernel_rfl) (by kernel_rfl) (by kernel_rfl) (fun _ _ _ h => h) (by intro w hw; go_simp) hHeld ?_
  simp only [Act.put, List.setIfInBounds_toArray, List.set_cons_zero, List.set_cons_succ]
  refine wpAnyH_done (by kernel_rfl) ?_ _
  go_wp2_with fail
  exact bodyPost_ret (by simp [results, Tryz.results198]) rfl HF.out
set_option maxHeartbeats 8000000 in
theorem upd_walk3 (h : Ms w A rb sb s tl ws) (hI : IV s tl L n) (hW : Wr ws) (hK : Kd w) (kl : 1 < w.heap.size) (i : Nat) (g : Int) (F : (Nat → Int) → Nat → Int) (fn : Nat) (caps : Array Value) (hent : ∀ args W, (callFunc fn args).run Tryz.prog W = .ok (.enter fn args) W)
    (hch : ∀ (w1 : World) (b : Nat) (W : Nat → Int), Below w.heap.size w w1 → w.heap.size ≤ b → Wq 3 W → w1.rangeAt b 0 (rowL 3 W) → (∀ q, w1.frozen? ⟨b, q, none⟩ = false) → Calls Tryz.prog fn (#[.pointer (some ⟨b, 0, none⟩)] ++ caps) w1 (ChPost 3 b (F W) w1)) :
    Calls Tryz.prog 171 #[.pointer (some ⟨A, 0, none⟩), .agg #[.int .u16 (i : Int), .int .u32 g], .func (.func fn) #[] caps] w (MrPost A rb sb s tl ws (updS s ws i g 3 F) w) := by
  have bB := Below.thr (alloc_below (w := w) (.cells #[.int .u16 (i : Int), .int .u32 g] 32)) (below_d _)
  have hz : (w.alloc (.cells #[.int .u16 (i : Int), .int .u32 g] 32)).heap[w.heap.size]? = some (.cells #[.int .u16 (i : Int), .int .u32 g] 32 (0, 0)) := heap_new _ _
  have HU := hideIt (update_walk3 (h.below bB) hI hW (hK.below bB kl) (Nat.lt_of_lt_of_le kl bB.size) i g ({ data := #[85, 112, 100, 97, 116, 101, 78, 111, 116, 105, 102, 105, 99, 97, 116, 105, 111, 110] }) F fn caps hent (fun w1 b W k1 k2 => hch w1 b W (Below.thr bB k1) (Nat.le_trans bB.size k2)))
  have HB := hideIt bB
  have HNT := hideIt h.ntz
  have hS0 := ref_agg hz
  clear h hI bB hK hz hch hW
  go_enter Tryz.func171, Tryz.ntmps171
  go_wp2_with fail
  generalize w.alloc (.cells #[.int .u16 (i : Int), .int .u32 g] 32) = w0 at *
  refine wp_region_held_drew (S := (fun w' => w'.cell? ⟨w.heap.size, 0, none⟩ = some (.int .u16 (i : Int)) ∧ w'.cell? ⟨w.heap.size, 1, none⟩ = some (.int .u32 g))) (by kernel_rfl) hS0 (fun hHeld => ?_)
  refine anyH_do (i := 0) (d := some 7) (v := (.pointer (some ⟨A, 0, none⟩))) rfl (by kernel_rfl) (by kernel_rfl) (by kernel_rfl) (fun _ _ _ h => h) (by intro w hw; go_simp) hHeld ?_
  simp only [Act.put, List.setIfInBounds_toArray, List.set_cons_zero, List.set_cons_succ]
  refine anyH_do (i := 1) (d := some 8) (v := (.pointer (some ⟨A, 0, none⟩))) rfl (by kernel_rfl) (by kernel_rfl) (by kernel_rfl) (fun _ _ _ h => h) (by intro w hw; go_simp) hHeld ?_
  simp only [Act.put, List.setIfInBounds_toArray, List.set_cons_zero, List.set_cons_succ]
  refine anyH_do (i := 2) (d := some 9) (v := (.pointer (some ⟨A, 0, none⟩))) rfl (by kernel_rfl) (by kernel_rfl) (by kernel_rfl) (fun _ _ _ h => h) (by intro w hw; go_simp) hHeld ?_
  simp only [Act.put, List.setIfInBounds_toArray, List.set_cons_zero, List.set_cons_succ]
  refine anyH_do (i := 3) (d := some 10) (v := (.pointer (some ⟨A, 2892, none⟩))) rfl (by kernel_rfl) (by kernel_rfl) (by kernel_rfl) (fun _ _ _ h => h) (by intro w hw; go_simp) hHeld ?_
  simp only [Act.put, List.setIfInBounds_toArray, List.set_cons_zero, List.set_cons_succ]
  refine anyH_do (i := 4) (d := some 11) (v := (.agg #[.int .u16 (i : Int), .int .u32 g])) rfl (by kernel_rfl) (by kernel_rfl) (by kernel_rfl) (fun _ _ _ h => h) (by intro w hw; go_simp) hHeld ?_
  simp only [Act.put, List.setIfInBounds_toArray, List.set_cons_zero, List.set_cons_succ]
  refine anyH_do (i := 5) (d := some 12) (v := (.func (.func fn) #[] caps)) rfl (by kernel_rfl) (by kernel_rfl) (by kernel_rfl) (fun _ _ _ h => h) (by intro w hw; go_simp) hHeld ?_
  simp only [Act.put, List.setIfInBounds_toArray, List.set_cons_zero, List.set_cons_succ]
  refine anyH_call (i := 6) (d := some 13) (f := 254) (args := #[.pointer (some ⟨A, 0, none⟩), .pointer (some ⟨A, 2892, none⟩), .string { data := #[85, 112, 100, 97, 116, 101, 78, 111, 116, 105, 102, 105, 99, 97, 116, 105, 111, 110] }, .agg #[.int .u16 (i : Int), .int .u32 g], .int .u8 5, .func (.func fn) #[] caps]) rfl (by kernel_rfl) (by go_simp) ?_
  refine HU.out.mono ?_
  rintro e w1 hh
  obtain ⟨v, rfl⟩ := hh.ret
  have hHeld1 : w1.cell? ⟨w.heap.size, 0, none⟩ = some (.int .u16 (i : Int)) ∧ w1.cell? ⟨w.heap.size, 1, none⟩ = some (.int .u32 g) := ⟨(hh.frame.cell (p := ⟨w.heap.size, 0, none⟩) (cell_lt hHeld.1) HNT.out).trans hHeld.1, (hh.frame.cell (p := ⟨w.heap.size, 1, none⟩) (cell_lt hHeld.2) HNT.out).trans hHeld.2⟩
  have HF := hideIt (hh.from HB.out)
  clear hHeld hS0 hh
  have hHeld := hHeld1
  refine ⟨_, rfl, hHeld, ?_⟩
  clear hHeld1
  simp only [Act.put, List.setIfInBounds_toArray, List.set_cons_zero, List.set_cons_succ]
  refine anyH_do (i := 7) (d := some 6) (v := (v)) rfl (by kernel_rfl) (by kernel_rfl) (by kernel_rfl) (fun _ _ _ h => h) (by intro w hw; go_simp) hHeld ?_
  simp only [Act.put, List.setIfInBounds_toArray, List.set_cons_zero, List.set_cons_succ]
  refine wpAnyH_done (by kernel_rfl) ?_ _
  go_wp2_with fail
  exact bodyPost_ret (by simp [results, Tryz.results171]) rfl HF.out
end
end Go.Proofs.Qxb6500847aGreatDoor.Os
