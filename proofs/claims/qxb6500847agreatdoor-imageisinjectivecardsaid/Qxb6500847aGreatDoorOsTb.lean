/-
  Cell, SetCell, UpdateCell.
-/
import Derived.Test.Qxb6500847aGreatDoorOsRh
import Derived.Test.Qxb6500847aGreatDoorOsTa
namespace Go.Proofs.Qxb6500847aGreatDoor.Os
open Go.RowKit FloorA
set_option maxRecDepth 100000
/-- The words of a row with cell c put in. -/
def putC (W : Nat → Int) (c : Nat) (U : Nat → Int) : Nat → Int := fun f => if f / 7 = c then U (f % 7) else W f
theorem cell_put {w w' : World} {b o c : Nat} {W U : Nat → Int} (h : w.rangeAt b o (rowL 0 W)) (hc : c < 16) (hs : St1 b (o + c * 8) 8 w w') (hm : w'.rangeAt b (o + c * 8) (cellL U 0)) : w'.rangeAt b o (rowL 0 (putC W c U)) := by
  have e1 : ∀ d, d ≠ c → cellL (putC W c U) (7 * d) = cellL W (7 * d) := fun d hd => by
    have n : ∀ q, q < 7 → putC W c U (7 * d + q) = W (7 * d + q) := fun q hq => by unfold putC; rw [if_neg (by omega)]
    unfold cellL
    rw [show putC W c U (7 * d) = W (7 * d) from n 0 (by omega), n 1 (by omega), n 2 (by omega), n 3 (by omega), n 4 (by omega), n 5 (by omega), n 6 (by omega)]
  have e2 : cellL (putC W c U) (7 * c) = cellL U 0 := by
    have n : ∀ q, q < 7 → putC W c U (7 * c + q) = U q := fun q hq => by
      unfold putC
      rw [if_pos (by omega), show (7 * c + q) % 7 = q by omega]
    unfold cellL
    rw [show putC W c U (7 * c) = U 0 from n 0 (by omega), n 1 (by omega), n 2 (by omega), n 3 (by omega), n 4 (by omega), n 5 (by omega), n 6 (by omega)]
  have e3 : ∀ l : List Nat, c ∉ l → l.flatMap (fun d => cellL (putC W c U) (7 * d)) = l.flatMap (fun d => cellL W (7 * d)) := fun l hl => by
    induction l with
    | nil => rfl
    | cons a l ih =>
      rw [List.flatMap_cons, List.flatMap_cons, ih (fun q => hl (List.mem_cons_of_mem _ q)), e1 a (fun q => hl (by rw [q]; simp))]
  rw [row0_split _ hc] at h ⊢
  rw [e2, e3 _ (by simp), e3 _ (fun q => by
    obtain ⟨y, _, e⟩ := List.mem_map.1 q
    omega)]
  have ll : ((List.range c).flatMap (fun c => cellL W (7 * c))).length = c * 8 := by rw [flat_len, List.length_range]; omega
  exact rangeAt.splice h (by rw [ll]; exact hs) (by rw [ll]; exact hm) rfl
theorem putC_wq {W U : Nat → Int} {c : Nat} (h : Wq 0 W) (hU : ∀ f, f < 7 → 0 ≤ U f ∧ U f < fMax 0 f) (hv : ∀ f, f < 7 → cOk f (U f)) : Wq 0 (putC W c U) := by
  refine ⟨fun f hf => ?_, fun f hf => ?_⟩
  · unfold putC
    split
    · rw [fMax0_mod]; exact hU (f % 7) (by omega)
    · exact h.1 f hf
  · unfold putC
    show cOk (f % 7) _
    split
    · exact hv (f % 7) (by omega)
    · exact h.2 f hf
/-- A cell put into a valid row leaves it valid just if it is in range. -/
theorem putC_wc {W U : Nat → Int} {c : Nat} (h : Wc 0 W) (hc : c < 16) : Wc 0 (putC W c U) ↔ ∀ f, f < 7 → cOk f (U f) := by
  constructor
  · intro q f hf
    have h1 : cOk ((7 * c + f) % 7) (putC W c U (7 * c + f)) := q (7 * c + f) (show 7 * c + f < 112 by omega)
    unfold putC at h1
    rw [if_pos (by omega), show (7 * c + f) % 7 = f by omega] at h1
    exact h1
  · intro q f hf
    show cOk (f % 7) (putC W c U f)
    unfold putC
    split
    · exact q (f % 7) (by omega)
    · exact h f hf
theorem cell_one (W : Nat → Int) : ∀ v ∈ cellL W 0, v.oneCell' = true := by
  intro v hv
  simp only [cellL, lo, hi, List.mem_cons, List.not_mem_nil, or_false] at hv
  rcases hv with rfl | rfl | rfl | rfl | rfl | rfl | rfl | rfl <;> rfl
theorem cells8 {w : World} {b : Nat} {v0 v1 v2 v3 v4 v5 v6 v7 : Value} {t : TypeId} (h : w.heap[b]? = some (.cells #[v0, v1, v2, v3, v4, v5, v6, v7] t (0, 0))) : w.cell? ⟨b, 0, none⟩ = some v0 ∧ w.cell? ⟨b, 1, none⟩ = some v1 ∧ w.cell? ⟨b, 2, none⟩ = some v2 ∧ w.cell? ⟨b, 3, none⟩ = some v3 ∧ w.cell? ⟨b, 4, none⟩ = some v4 ∧ w.cell? ⟨b, 5, none⟩ = some v5 ∧ w.cell? ⟨b, 6, none⟩ = some v6 ∧ w.cell? ⟨b, 7, none⟩ = some v7 ∧ w.frozen? ⟨b, 0, none⟩ = false ∧ w.frozen? ⟨b, 1, none⟩ = false ∧ w.frozen? ⟨b, 2, none⟩ = false ∧ w.frozen? ⟨b, 3, none⟩ = false ∧ w.frozen? ⟨b, 4, none⟩ = false ∧ w.frozen? ⟨b, 5, none⟩ = false ∧ w.frozen? ⟨b, 6, none⟩ = false ∧ w.frozen? ⟨b, 7, none⟩ = false := by
  refine ⟨box_cell h 0, box_cell h 1, box_cell h 2, box_cell h 3, box_cell h 4, box_cell h 5, box_cell h 6, box_cell h 7, ?_, ?_, ?_, ?_, ?_, ?_, ?_, ?_⟩ <;> simp [World.frozen?, h]
theorem sz98 : (Tryz.prog.info? 98).map (·.size) = some 8 := by kernel_rfl
theorem cell_sz (W : Nat → Int) : (Tryz.prog.info? 98).map (·.size) = some (cellL W 0).length := sz98
theorem cell_un : ∃ d, Tryz.prog.underlying 98 = some d ∧ d.isRow = true := ⟨_, Tryz.underlying98, rfl⟩
theorem loadVar_cell {w : World} {R : Nat} {W : Nat → Int} (h : w.rangeAt R 0 (cellL W 0)) : (loadVar 98 ⟨R, 0, none⟩).run Tryz.prog w = .ok (.agg (cellL W 0).toArray) w := by
  obtain ⟨d, hu, hd⟩ := cell_un
  exact run_loadVar_mid w R 0 98 _ d h hu hd (cell_sz W)
section
variable {A : Nat} {rb sb : Nat → Nat} {s : Av} {tl : Nat → List Int} {ws : Nat → Nat → Nat → Int} {w : World} {L : Nat → List Nat} {n : Nat}
def CePost (s : Av) (ws : Nat → Nat → Nat → Int) (i c : Nat) (g : Int) (w : World) (e : Ending) (w' : World) : Prop :=
  Below w.heap.size w w' ∧ ((Live s i g ∧ (s.hd i).typ = ((0 + 2 : Nat) : Int) ∧ ∃ r : Nat, (s.hd i).row = (r : Int) ∧ r < nR 0 ∧ e = .returned (.tuple #[.agg (cellL (fun j => ws 0 r (7 * c + j)) 0).toArray, .nilIface])) ∨ (¬ (Live s i g ∧ (s.hd i).typ = ((0 + 2 : Nat) : Int)) ∧ ∃ v code x, e = .returned (.tuple #[.agg x, v]) ∧ code ≠ 0 ∧ IsErr w' v code ∧ code = (if Live s i g then 3 else stale i g)))
set_option maxHeartbeats 8000000 in
theorem Cell_walk (h : Ms w A rb sb s tl ws) (hI : IV s tl L n) (hK : Kd w) (kl : 1 < w.heap.size) (i : Nat) (g : Int) {c : Nat} (hc : c < 16) :
    Calls Tryz.prog 191 #[.pointer (some ⟨A, 0, none⟩), .agg #[.int .u16 (i : Int), .int .u32 g], .int .i64 (c : Int)] w (CePost s ws i c g w) := by
  have bB := two_below (w := w) (.cells #[.int .u16 (i : Int), .int .u32 g] 32) (.cells #[.int .u16 0, .int .u32 0, .int .u8 0, .int .u64 0, .int .u32 0, .int .u16 0, .int .u16 0, .int .u8 0] 98)
  have bD := Below.thr bB (below_d _)
  have hz : ((w.alloc (.cells #[.int .u16 (i : Int), .int .u32 g] 32)).alloc (.cells #[.int .u16 0, .int .u32 0, .int .u8 0, .int .u64 0, .int .u32 0, .int .u16 0, .int .u16 0, .int .u8 0] 98)).heap[w.heap.size]? = some (.cells #[.int .u16 (i : Int), .int .u32 g] 32 (0, 0)) := (heap_alloc_old _ _ (by simp)).trans (heap_new _ _)
  have hz2 : ((w.alloc (.cells #[.int .u16 (i : Int), .int .u32 g] 32)).alloc (.cells #[.int .u16 0, .int .u32 0, .int .u8 0, .int .u64 0, .int .u32 0, .int .u16 0, .int .u16 0, .int .u8 0] 98)).heap[w.heap.size + 1]? = some (.cells #[.int .u16 0, .int .u32 0, .int .u8 0, .int .u64 0, .int .u32 0, .int .u16 0, .int .u16 0, .int .u8 0] 98 (0, 0)) := new_at _ _ (Deep.nblk_alloc _ _)
  have HB := hideIt bD
  have HM0 := hideIt (h.below bD)
  have HI := hideIt hI
  have HK0 : Hid (Kd ((w.alloc (.cells #[.int .u16 (i : Int), .int .u32 g] 32)).alloc (.cells #[.int .u16 0, .int .u32 0, .int .u8 0, .int .u64 0, .int .u32 0, .int .u16 0, .int .u16 0, .int .u8 0] 98)).drew) := hK.below bD kl
  have HKl0 : Hid (1 < ((w.alloc (.cells #[.int .u16 (i : Int), .int .u32 g] 32)).alloc (.cells #[.int .u16 0, .int .u32 0, .int .u8 0, .int .u64 0, .int .u32 0, .int .u16 0, .int .u16 0, .int .u8 0] 98)).drew.heap.size) := Nat.lt_of_lt_of_le kl bD.size
  have HZ2 := hideIt hz2
  have hS0 := ref_agg hz
  obtain ⟨d, hun, hd⟩ := cell_un
  have HUN := hideIt hun
  have HD := hideIt hd
  have c0 : decide ((c : Int) < 0) = false := decide_eq_false (by omega)
  have c1 : decide ((16 : Int) ≤ (c : Int)) = false := decide_eq_false (by omega)
  have c2 : (0 : Int) ≤ (c : Int) := by omega
  have c3 : (c : Int) < 16 := by omega
  clear h hI bB bD hK hz2 hz hun hd
  go_enter Tryz.func191, Tryz.ntmps191
  go_wp2_with fail
  generalize (w.alloc (.cells #[.int .u16 (i : Int), .int .u32 g] 32)).alloc (.cells #[.int .u16 0, .int .u32 0, .int .u8 0, .int .u64 0, .int .u32 0, .int .u16 0, .int .u16 0, .int .u8 0] 98) = w0 at *
  refine wp_region_held_drew (S := (fun w' => w'.cell? ⟨w.heap.size, 0, none⟩ = some (.int .u16 (i : Int)) ∧ w'.cell? ⟨w.heap.size, 1, none⟩ = some (.int .u32 g))) (by kernel_rfl) hS0 (fun hHeld => ?_)
  refine anyH_do (i := 0) (d := some 11) (v := (.pointer (some ⟨A, 0, none⟩))) rfl (by kernel_rfl) (by kernel_rfl) (by kernel_rfl) (fun _ _ _ h => h) (by intro w hw; go_simp) hHeld ?_
  simp only [Act.put, List.setIfInBounds_toArray, List.set_cons_zero, List.set_cons_succ]
  refine anyH_do (i := 1) (d := some 12) (v := (.pointer (some ⟨A, 0, none⟩))) rfl (by kernel_rfl) (by kernel_rfl) (by kernel_rfl) (fun _ _ _ h => h) (by intro w hw; go_simp) hHeld ?_
  simp only [Act.put, List.setIfInBounds_toArray, List.set_cons_zero, List.set_cons_succ]
  refine anyH_do (i := 2) (d := some 13) (v := (.pointer (some ⟨A, 0, none⟩))) rfl (by kernel_rfl) (by kernel_rfl) (by kernel_rfl) (fun _ _ _ h => h) (by intro w hw; go_simp) hHeld ?_
  simp only [Act.put, List.setIfInBounds_toArray, List.set_cons_zero, List.set_cons_succ]
  refine anyH_do (i := 3) (d := some 14) (v := (.pointer (some ⟨A, 2886, none⟩))) rfl (by kernel_rfl) (by kernel_rfl) (by kernel_rfl) (fun _ _ _ h => h) (by intro w hw; go_simp) hHeld ?_
  simp only [Act.put, List.setIfInBounds_toArray, List.set_cons_zero, List.set_cons_succ]
  refine anyH_do (i := 4) (d := some 15) (v := (.agg #[.int .u16 (i : Int), .int .u32 g])) rfl (by kernel_rfl) (by kernel_rfl) (by kernel_rfl) (fun _ _ _ h => h) (by intro w hw; go_simp) hHeld ?_
  simp only [Act.put, List.setIfInBounds_toArray, List.set_cons_zero, List.set_cons_succ]
  refine anyH_call (i := 5) (d := some 16) (f := 249) (args := #[.pointer (some ⟨A, 0, none⟩), .pointer (some ⟨A, 2886, none⟩), .string { data := #[67, 101, 108, 108] }, .agg #[.int .u16 (i : Int), .int .u32 g], .int .u8 2]) rfl (by kernel_rfl) (by go_simp) ?_
  refine (rowOf_walk0 HM0.out HI.out.tb HK0.out HKl0.out i g _).mono ?_
  rintro e w1 ⟨hb1, hh⟩
  have hHeld1 : w1.cell? ⟨w.heap.size, 0, none⟩ = some (.int .u16 (i : Int)) ∧ w1.cell? ⟨w.heap.size, 1, none⟩ = some (.int .u32 g) := ⟨(hb1.cell (p := ⟨w.heap.size, 0, none⟩) (cell_lt hHeld.1)).trans hHeld.1, (hb1.cell (p := ⟨w.heap.size, 1, none⟩) (cell_lt hHeld.2)).trans hHeld.2⟩
  have HB1 := hideIt (Below.thr HB.out hb1)
  have HM1 := hideIt (HM0.out.below hb1)
  have HZ1 := hideIt ((hb1.block (w.heap.size + 1) (heap_lt (w := w0.drew) HZ2.out)).trans (show w0.drew.heap[w.heap.size + 1]? = _ from HZ2.out))
  clear hb1 hHeld hS0
  rcases hh with ⟨hl, ht, r, er, r1, rfl⟩ | ⟨hl, v, code, rfl, hcd, hv, hs⟩
  · have hHeld := hHeld1
    refine ⟨_, rfl, hHeld, ?_⟩
    have hcell := cell_at (HM1.out.row 0 (by omega) r r1) hc
    have hth := there_of HZ1.out 8 (by simp)
    have HRow := hideIt hcell
    have HTh : Hid (w1.there (w.heap.size + 1) 0 (cellL (fun j => ws 0 r (7 * c + j)) 0).toArray.size) := hth
    have HLv := hideIt (loadVar_cell (World.rangeAt_setCells_same w1 (w.heap.size + 1) 0 (cellL (fun j => ws 0 r (7 * c + j)) 0) hth))
    have HF : Hid (CePost s ws i c g w (.returned (.tuple #[.agg (cellL (fun j => ws 0 r (7 * c + j)) 0).toArray, .nilIface])) (w1.setCells (w.heap.size + 1) 0 (cellL (fun j => ws 0 r (7 * c + j)) 0))) := ⟨Below.cells HB1.out (by omega) _ _, Or.inl ⟨hl, ht, r, er, r1, rfl⟩⟩
    have HS0 := hideIt (cell_sz (fun j => ws 0 r (7 * c + j)))
    have H1 := hideIt (cell_one (fun j => ws 0 r (7 * c + j)))
    clear hl ht er r1 hcell hth hHeld1
    generalize hw2 : w1.setCells (w.heap.size + 1) 0 (cellL (fun j => ws 0 r (7 * c + j)) 0) = w2 at *
    have HW2 := hideIt hw2
    clear hw2
    generalize cellL (fun j => ws 0 r (7 * c + j)) 0 = row at *
    generalize r * nC 0 = o at *
    simp only [Act.put, List.setIfInBounds_toArray, List.set_cons_zero, List.set_cons_succ]
    refine anyH_do (i := 6) (d := some 10) (v := (.tuple #[.pointer (some ⟨rb 0, o, none⟩), .nilIface])) rfl (by kernel_rfl) (by kernel_rfl) (by kernel_rfl) (fun _ _ _ h => h) (by intro w hw; go_simp) hHeld ?_
    simp only [Act.put, List.setIfInBounds_toArray, List.set_cons_zero, List.set_cons_succ]
    refine anyH_do (i := 7) (d := some 17) (v := (.pointer (some ⟨rb 0, o, none⟩))) rfl (by kernel_rfl) (by kernel_rfl) (by kernel_rfl) (fun _ _ _ h => h) (by intro w hw; go_simp) hHeld ?_
    simp only [Act.put, List.setIfInBounds_toArray, List.set_cons_zero, List.set_cons_succ]
    refine anyH_do (i := 8) (d := some 18) (v := (.nilIface)) rfl (by kernel_rfl) (by kernel_rfl) (by kernel_rfl) (fun _ _ _ h => h) (by intro w hw; go_simp) hHeld ?_
    simp only [Act.put, List.setIfInBounds_toArray, List.set_cons_zero, List.set_cons_succ]
    refine anyH_do (i := 9) (d := some 8) (v := (.pointer (some ⟨rb 0, o, none⟩))) rfl (by kernel_rfl) (by kernel_rfl) (by kernel_rfl) (fun _ _ _ h => h) (by intro w hw; go_simp) hHeld ?_
    simp only [Act.put, List.setIfInBounds_toArray, List.set_cons_zero, List.set_cons_succ]
    refine anyH_do (i := 10) (d := some 9) (v := (.nilIface)) rfl (by kernel_rfl) (by kernel_rfl) (by kernel_rfl) (fun _ _ _ h => h) (by intro w hw; go_simp) hHeld ?_
    simp only [Act.put, List.setIfInBounds_toArray, List.set_cons_zero, List.set_cons_succ]
    refine wpAnyH_done (by kernel_rfl) ?_ _
    go_wp2_with (first | (refine wpList_load_mid rfl 98 (.tmp 36) rfl (rb 0) (o + c * 8) rfl row d HRow.out HUN.out HD.out HS0.out ?_) | (refine wpList_store_mid rfl 98 (.tmp 6) (.tmp 37) rfl (w.heap.size + 1) 0 row.toArray rfl rfl HTh.out (by rw [List.size_toArray]; exact HS0.out) (all_oneCell_toArray H1.out) ?_; rw [List.toList_toArray, HW2.out]))
    exact bodyPost_ret (results_two (by exact Tryz.results191) _ _ (w.heap.size + 1) _ _ (by rfl) (by rfl) HLv.out) rfl HF.out
  · have hHeld := hHeld1
    obtain ⟨b, rfl, hbc⟩ := hv
    refine ⟨_, rfl, hHeld, ?_⟩
    obtain ⟨y0, y1, y2, y3, y4, y5, y6, y7, g0, g1, g2, g3, g4, g5, g6, g7⟩ := cells8 HZ1.out
    have hn8 : ∀ c, w1.cell? ⟨w.heap.size + 1, 0, none⟩ ≠ some (.int .u8 c) := fun c q => by rw [y0] at q; cases q
    have HE := hideIt (IsErr.cells (R := w.heap.size + 1) ⟨b, rfl, hbc⟩ hn8 (cellL (fun _ => 0) 0) 0)
    have hth := there_of HZ1.out 8 (by simp)
    have HLv := hideIt (loadVar_cell (World.rangeAt_setCells_same w1 (w.heap.size + 1) 0 (cellL (fun _ => 0) 0) hth))
    have HF : Hid (CePost s ws i c g w (.returned (.tuple #[.agg (cellL (fun _ => 0) 0).toArray, .iface 212 (.pointer (some ⟨b, 0, none⟩))])) (w1.setCells (w.heap.size + 1) 0 (cellL (fun _ => 0) 0))) := ⟨Below.cells HB1.out (by omega) _ _, Or.inr ⟨hl, _, code, _, rfl, hcd, HE.out, hs⟩⟩
    clear hl hbc hs hcd hth hHeld1 hn8
    simp only [Act.put, List.setIfInBounds_toArray, List.set_cons_zero, List.set_cons_succ]
    refine anyH_do (i := 6) (d := some 10) (v := (.tuple #[.pointer none, .iface 212 (.pointer (some ⟨b, 0, none⟩))])) rfl (by kernel_rfl) (by kernel_rfl) (by kernel_rfl) (fun _ _ _ h => h) (by intro w hw; go_simp) hHeld ?_
    simp only [Act.put, List.setIfInBounds_toArray, List.set_cons_zero, List.set_cons_succ]
    refine anyH_do (i := 7) (d := some 17) (v := (.pointer none)) rfl (by kernel_rfl) (by kernel_rfl) (by kernel_rfl) (fun _ _ _ h => h) (by intro w hw; go_simp) hHeld ?_
    simp only [Act.put, List.setIfInBounds_toArray, List.set_cons_zero, List.set_cons_succ]
    refine anyH_do (i := 8) (d := some 18) (v := (.iface 212 (.pointer (some ⟨b, 0, none⟩)))) rfl (by kernel_rfl) (by kernel_rfl) (by kernel_rfl) (fun _ _ _ h => h) (by intro w hw; go_simp) hHeld ?_
    simp only [Act.put, List.setIfInBounds_toArray, List.set_cons_zero, List.set_cons_succ]
    refine anyH_do (i := 9) (d := some 8) (v := (.pointer none)) rfl (by kernel_rfl) (by kernel_rfl) (by kernel_rfl) (fun _ _ _ h => h) (by intro w hw; go_simp) hHeld ?_
    simp only [Act.put, List.setIfInBounds_toArray, List.set_cons_zero, List.set_cons_succ]
    refine anyH_do (i := 10) (d := some 9) (v := (.iface 212 (.pointer (some ⟨b, 0, none⟩)))) rfl (by kernel_rfl) (by kernel_rfl) (by kernel_rfl) (fun _ _ _ h => h) (by intro w hw; go_simp) hHeld ?_
    simp only [Act.put, List.setIfInBounds_toArray, List.set_cons_zero, List.set_cons_succ]
    refine wpAnyH_done (by kernel_rfl) ?_ _
    go_wp2_with fail
    exact bodyPost_ret (results_two (by exact Tryz.results191) _ _ (w.heap.size + 1) _ _ (by rfl) (by rfl) HLv.out) rfl HF.out
end
end Go.Proofs.Qxb6500847aGreatDoor.Os
