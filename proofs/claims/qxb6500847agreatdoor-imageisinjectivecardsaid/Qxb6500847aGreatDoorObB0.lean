/-
  typedWords: CNode.
-/
import Derived.Test.Qxb6500847aGreatDoorOsCp
import Derived.Test.Qxb6500847aGreatDoorOxP
import Derived.Test.Qxb6500847aGreatDoorOxPz
import Derived.Test.Qxb6500847aGreatDoorObF
import Derived.Test.Qxb6500847aGreatDoorEqB
import Derived.Test.Qxb6500847aGreatDoorOsUb
import Derived.Deep.AppendLies
import Derived.Deep.RegionHeld3
namespace Go.Proofs.Qxb6500847aGreatDoor.Os
open Go.RowKit FloorA
set_option maxRecDepth 100000
section
variable {A : Nat} {rb sb : Nat → Nat} {s : Av} {tl : Nat → List Int} {ws : Nat → Nat → Nat → Int} {w : World} {L : Nat → List Nat} {n : Nat}
theorem get_live0 {W1 : World} (h : Ms w A rb sb s tl ws) (hI : IV s tl L n) (hK : Kd w) (kl : 1 < w.heap.size) {i r : Nat} {g : Int} (hl : Live s i g) (ht : (s.hd i).typ = ((0 + 2 : Nat) : Int)) (er : (s.hd i).row = (r : Int)) (hb : Below w.heap.size w W1) :
    Calls Tryz.prog 189 #[.pointer (some ⟨A, 0, none⟩), .agg #[.int .u16 (i : Int), .int .u32 g]] W1 (fun e w' => e = .returned (.tuple #[.agg (rowL 0 (ws 0 r)).toArray, .nilIface]) ∧ Below w.heap.size w w') := by
  refine (get_at0 h hI hK kl i g hb).mono ?_
  rintro e w' ⟨hb', ⟨_, _, r', er', _, rfl⟩ | ⟨hn, _⟩⟩
  · obtain rfl : r' = r := by rw [er] at er'; omega
    exact ⟨rfl, hb'⟩
  · exact absurd ⟨hl, ht⟩ hn
theorem inf34y : (Tryz.prog.info? 34).map (fun i => (i.zero, i.size, i.bytes)) = some (some (.int .u64 0), 1, 8) := by kernel_rfl
theorem inf98 : (Tryz.prog.info? 98).map (fun i => i.size) = some 8 := by kernel_rfl
theorem inf99 : (Tryz.prog.info? 99).map (fun i => i.size) = some 128 := by kernel_rfl
theorem un99 : ∃ d, Tryz.prog.underlying 99 = some d ∧ d.isRow = true := ⟨_, Tryz.underlying99, rfl⟩
/-- A cell out of the array. -/
theorem idx99 (W : Nat → Int) {k : Nat} (hk : k < 16) (w : World) : (Instr.index 99 (.agg (rowL 0 W).toArray) (.int .i64 (k : Int))).run Tryz.prog w = .ok (.agg (cellL W (7 * k)).toArray) w := by
  obtain ⟨i7, hi7, hs7⟩ := Option.map_eq_some_iff.1 inf98
  have he : List.take 8 (List.drop (k * 8) (rowL 0 W)) = cellL W (7 * k) := by
    apply List.ext_getElem?
    intro j
    by_cases q : j < 8
    · rw [List.getElem?_take_of_lt q, List.getElem?_drop]
      exact row0_at W hk q
    · rw [List.getElem?_eq_none (by rw [List.length_take]; omega), List.getElem?_eq_none (by show 8 ≤ j; omega)]
  unfold Instr.index
  simp [asIntOf, run_underlying Tryz.underlying99, part, isAgg, run_underlying Tryz.underlying98, sizeOf, typeInfo, hi7, hs7]
  rw [if_pos hk, he]
theorem ones7 (a b c d e f g : Int) : ∀ u ∈ [Value.int .u64 a, Value.int .u64 b, Value.int .u64 c, Value.int .u64 d, Value.int .u64 e, Value.int .u64 f, Value.int .u64 g], u.oneCell' = true := by
  intro u hu
  simp at hu
  rcases hu with rfl | rfl | rfl | rfl | rfl | rfl | rfl <;> rfl
theorem new_cells (w : World) (cs : List Value) (T : Nat) : ∀ j u, cs[j]? = some u → (w.alloc (.cells cs.toArray T)).cell? ((⟨w.heap.size, 0, none⟩ : Addr).add j) = some u := fun j u hu => by
  have e : (⟨w.heap.size, 0, none⟩ : Addr).add j = ⟨w.heap.size, j, none⟩ := by unfold Addr.add; by_cases e : j = 0 <;> simp [e]
  rw [e, box_cell (heap_new w _) j, List.getElem?_toArray]
  exact hu
theorem take_cell (W : Nat → Int) (k : Nat) : (List.range (7 * (k + 1))).map W = (List.range (7 * k)).map W ++ [W (7 * k), W (7 * k + 1), W (7 * k + 2), W (7 * k + 3), W (7 * k + 4), W (7 * k + 5), W (7 * k + 6)] := by
  rw [show 7 * (k + 1) = 7 * k + 7 by omega, List.range_add, List.map_append]
  rfl
set_option maxHeartbeats 8000000 in
theorem typed0 (h : Ms w A rb sb s tl ws) (hI : IV s tl L n) (hW : Wr ws) (hK : Kd w) (kl : 1 < w.heap.size) {i r : Nat} {g : Int} (hl : Live s i g) (ht : (s.hd i).typ = ((0 + 2 : Nat) : Int)) (er : (s.hd i).row = (r : Int)) (r1 : r < nR 0) :
    Calls Tryz.prog 93 #[.pointer (some ⟨A, 0, none⟩), .agg #[.int .u16 (i : Int), .int .u32 g], .int .u8 2] w fun e w' => ∃ v, e = .returned v ∧ IsU w.heap.size w' v (wlist (nF 0) (ws 0 r)) ∧ Below w.heap.size w w' := by
  obtain ⟨i0, hi0, hz0, hz1, hz2⟩ := info_parts inf34y
  obtain ⟨d99, hu99, hd99⟩ := un99
  have hb0 := alloc_below (w := w) (.cells #[.int .u16 (i : Int), .int .u32 g] 32)
  have hz : (w.alloc (.cells #[.int .u16 (i : Int), .int .u32 g] 32)).heap[w.heap.size]? = some (.cells #[.int .u16 (i : Int), .int .u32 g] 32 (0, 0)) := heap_new _ _
  obtain ⟨z0, z1, _, _⟩ := two_cells hz
  have hG := get_live0 h hI hK kl hl ht er hb0
  have HQ := hideIt (hW 0 r (by decide) r1).1
  have H1 := hideIt (row_one 0 (ws 0 r))
  have HS0 : Hid ((Tryz.prog.info? 101).map (·.size) = some (rowL 0 (ws 0 r)).length) := row_sz (t := 0) (by omega) (ws 0 r)
  have HL0 : Hid ((rowL 0 (ws 0 r)).length = 128) := rowL_len 0 _
  have HS9 : Hid ((Tryz.prog.info? 99).map (·.size) = some (rowL 0 (ws 0 r)).length) := by
    show _ = _
    rw [HL0.out]
    exact inf99
  have HIX := hideIt (fun k (hk : k < 16) w => idx99 (ws 0 r) hk w)
  have HG := hideIt hG
  show Calls Tryz.prog 93 _ w fun e w' => ∃ v, e = .returned v ∧ IsU w.heap.size w' v ((List.range (7 * 16)).map (ws 0 r)) ∧ Below w.heap.size w w'
  generalize ws 0 r = W at *
  generalize rowL 0 W = row at *
  clear h hI hW hK hl ht er r1 hG hb0 hz
  go_enter Tryz.func93, Tryz.ntmps93
  go_wp2_with fail
  go_at_call 189
  refine HG.out.mono ?_
  rintro e w2 ⟨rfl, hb2⟩
  have HB2 := hideIt hb2
  have hth := new_row (w := w2) (t := 0) (Z := Tryz.zeroCells101) (by rw [zrow0]; exact (List.size_toArray).trans (rowL_len 0 _)) 101
  have hnn : row.toArray.size = 128 := (List.size_toArray).trans HL0.out
  have HTh := hideIt (show (w2.alloc (.cells Tryz.zeroCells101 101)).there w2.heap.size 0 row.toArray.size from by rw [hnn]; exact hth)
  have hr3 := World.rangeAt_setCells_same (w2.alloc (.cells Tryz.zeroCells101 101)) w2.heap.size 0 row (by rw [HL0.out]; exact hth)
  have hb3 := Below.cells (alloc_below (w := w2) (.cells Tryz.zeroCells101 101)) (Nat.le_refl _) row 0
  generalize hw3 : (w2.alloc (.cells Tryz.zeroCells101 101)).setCells w2.heap.size 0 row = w3 at *
  have HW3 := hideIt hw3
  have HB3 := hideIt (Below.thr hb2 hb3)
  have l3 : w.heap.size ≤ w2.heap.size := hb2.size
  have hz3 : w.heap.size ≤ w3.heap.size := HB3.out.size
  obtain ⟨u0, hu0⟩ : ∃ u, row[0]? = some u := ⟨_, List.getElem?_eq_getElem (by rw [HL0.out]; omega)⟩
  have l4 : w2.heap.size < w3.heap.size := cell_lt (hr3 0 u0 hu0)
  have HR3 := hideIt hr3
  clear hb2 hth hb3 hr3 hw3 HG z0 z1 hnn hu0
  go_wp2_with (first
    | (refine wpList_store_mid rfl 101 (.tmp 7) (.tmp 32) rfl w2.heap.size 0 row.toArray rfl rfl HTh.out (by rw [List.size_toArray]; exact HS0.out) (all_oneCell_toArray H1.out) ?_; first | rw [List.toList_toArray, HW3.out] | rw [HW3.out] | skip)
    | (at_make; refine wpList_make_own _ rfl _ _ 35 rfl w.heap.size 34 i0 (.int .u64 0) 1 Tryz.underlying35 hi0 hz0 hz1 .i64 .i64 112 112 rfl rfl rfl (by rw [hz2]; decide) (by decide) hz3 ?_; intro w4 hown4 hgrow4; have hb4 : Below w3.heap.size w3 w4 := ⟨hgrow4.os, hgrow4.tape, hgrow4.output, hgrow4.size, fun q hq => hgrow4.block q hq (by simp)⟩; have hr4 : w4.rangeAt w2.heap.size 0 row := fun j u hu => (hb4.cell (p := ⟨w2.heap.size, 0 + j, none⟩) l4).trans (HR3.out j u hu); have HT4 : Hid (Tw w w4 w2.heap.size [] (.slice (some ⟨w3.heap.size, 0, none⟩) 0 112) []) := ⟨hown4, Below.thr HB3.out hb4, fun j u hu => by simp at hu, fun b hb => by obtain rfl : w3.heap.size = b := Option.some.inj hb; omega, Nat.lt_of_lt_of_le l4 hb4.size⟩; have HR4 := hideIt hr4; clear hown4 hgrow4 hb4 hr4)
    | (refine wpList_load_mid rfl 99 (.tmp 35) rfl w2.heap.size 0 rfl row d99 HR4.out hu99 hd99 HS9.out ?_))
  clear HR4 HR3 HTh HS0 H1 HW3 HL0 HS9
  generalize w2.heap.size = R at *
  go_loopw [9, 37] (fun v9 v37 wr => ∃ k : Nat, k ≤ 16 ∧ v37 = .int .i64 (k : Int) ∧ Tw w wr R [] v9 ((List.range (7 * k)).map W)) (fun _ j _ => 16 - (intOf j).toNat)
  case atStart => exact ⟨0, by omega, rfl, HT4.out⟩
  case round =>
    clear HT4
    obtain ⟨k, hk, rfl, htw⟩ := hrel
    by_cases hlt : k < 16
    · have hlt' : (k : Int) < 16 := by omega
      have hix := HIX.out k hlt
      unfold cellL lo hi at hix
      have HY := hideIt (take_cell W k)
      obtain ⟨x0, ex0, lx0⟩ : ∃ x : Nat, W (7 * k) = (x : Int) ∧ x < 281474976710656 := by
        have := HQ.out (7 * k) (by show _ < 112; omega)
        exact ⟨(W (7 * k)).toNat, by omega, by simp [fMax] at this; omega⟩
      obtain ⟨x1, ex1, lx1⟩ : ∃ x : Nat, W (7 * k + 1) = (x : Int) ∧ x < 256 := by
        have := HQ.out (7 * k + 1) (by show _ < 112; omega)
        have e : (7 * k + 1) % 7 = 1 := by omega
        exact ⟨(W (7 * k + 1)).toNat, by omega, by simp [fMax, e] at this; omega⟩
      obtain ⟨x2, ex2, lx2⟩ : ∃ x : Nat, W (7 * k + 2) = (x : Int) ∧ x < 18446744073709551616 := by
        have := HQ.out (7 * k + 2) (by show _ < 112; omega)
        have e : (7 * k + 2) % 7 = 2 := by omega
        exact ⟨(W (7 * k + 2)).toNat, by omega, by simp [fMax, e] at this; omega⟩
      obtain ⟨x3, ex3, lx3⟩ : ∃ x : Nat, W (7 * k + 3) = (x : Int) ∧ x < 4294967296 := by
        have := HQ.out (7 * k + 3) (by show _ < 112; omega)
        have e : (7 * k + 3) % 7 = 3 := by omega
        exact ⟨(W (7 * k + 3)).toNat, by omega, by simp [fMax, e] at this; omega⟩
      obtain ⟨x4, ex4, lx4⟩ : ∃ x : Nat, W (7 * k + 4) = (x : Int) ∧ x < 65536 := by
        have := HQ.out (7 * k + 4) (by show _ < 112; omega)
        have e : (7 * k + 4) % 7 = 4 := by omega
        exact ⟨(W (7 * k + 4)).toNat, by omega, by simp [fMax, e] at this; omega⟩
      obtain ⟨x5, ex5, lx5⟩ : ∃ x : Nat, W (7 * k + 5) = (x : Int) ∧ x < 65536 := by
        have := HQ.out (7 * k + 5) (by show _ < 112; omega)
        have e : (7 * k + 5) % 7 = 5 := by omega
        exact ⟨(W (7 * k + 5)).toNat, by omega, by simp [fMax, e] at this; omega⟩
      obtain ⟨x6, ex6, lx6⟩ : ∃ x : Nat, W (7 * k + 6) = (x : Int) ∧ x < 256 := by
        have := HQ.out (7 * k + 6) (by show _ < 112; omega)
        have e : (7 * k + 6) % 7 = 6 := by omega
        exact ⟨(W (7 * k + 6)).toNat, by omega, by simp [fMax, e] at this; omega⟩
      rw [ex0, ex1, ex2, ex3, ex4, ex5, ex6] at hix HY
      have HP := hideIt (fun W => Pack_walk x0 lx0 W)
      have hw1 : IntKind.u64.wrap (x1 : Int) = (x1 : Int) := u64_same (by omega) (by omega)
      have hw3 : IntKind.u64.wrap (x3 : Int) = (x3 : Int) := u64_same (by omega) (by omega)
      have hw4 : IntKind.u64.wrap (x4 : Int) = (x4 : Int) := u64_same (by omega) (by omega)
      have hw5 : IntKind.u64.wrap (x5 : Int) = (x5 : Int) := u64_same (by omega) (by omega)
      have hw6 : IntKind.u64.wrap (x6 : Int) = (x6 : Int) := u64_same (by omega) (by omega)
      obtain ⟨a9, c9, hf9⟩ := htw.form
      subst hf9
      have HT9 := hideIt htw
      have HZ9 : Hid (w.heap.size ≤ wr.heap.size) := htw.bel.size
      have HL9 : Hid (((List.range (7 * k)).map W).length ≤ 112) := by show _ ≤ _; rw [List.length_map, List.length_range]; omega
      have hn := heap_new wr (.cells #[.int .u16 ((x0 : Int) % 65536), .int .u32 ((x0 : Int) / 65536), .int .u8 (x1 : Int), .int .u64 (x2 : Int), .int .u32 (x3 : Int), .int .u16 (x4 : Int), .int .u16 (x5 : Int), .int .u8 (x6 : Int)] 98)
      have HA9 := hideIt (alloc_below (w := wr) (.cells #[.int .u16 ((x0 : Int) % 65536), .int .u32 ((x0 : Int) / 65536), .int .u8 (x1 : Int), .int .u64 (x2 : Int), .int .u32 (x3 : Int), .int .u16 (x4 : Int), .int .u16 (x5 : Int), .int .u8 (x6 : Int)] 98))
      have y0 : (wr.alloc (.cells #[.int .u16 ((x0 : Int) % 65536), .int .u32 ((x0 : Int) / 65536), .int .u8 (x1 : Int), .int .u64 (x2 : Int), .int .u32 (x3 : Int), .int .u16 (x4 : Int), .int .u16 (x5 : Int), .int .u8 (x6 : Int)] 98)).cell? ⟨wr.heap.size, 0, none⟩ = some (.int .u16 ((x0 : Int) % 65536)) := box_cell hn 0
      have y1 : (wr.alloc (.cells #[.int .u16 ((x0 : Int) % 65536), .int .u32 ((x0 : Int) / 65536), .int .u8 (x1 : Int), .int .u64 (x2 : Int), .int .u32 (x3 : Int), .int .u16 (x4 : Int), .int .u16 (x5 : Int), .int .u8 (x6 : Int)] 98)).cell? ⟨wr.heap.size, 1, none⟩ = some (.int .u32 ((x0 : Int) / 65536)) := box_cell hn 1
      have y2 : (wr.alloc (.cells #[.int .u16 ((x0 : Int) % 65536), .int .u32 ((x0 : Int) / 65536), .int .u8 (x1 : Int), .int .u64 (x2 : Int), .int .u32 (x3 : Int), .int .u16 (x4 : Int), .int .u16 (x5 : Int), .int .u8 (x6 : Int)] 98)).cell? ⟨wr.heap.size, 2, none⟩ = some (.int .u8 (x1 : Int)) := box_cell hn 2
      have y3 : (wr.alloc (.cells #[.int .u16 ((x0 : Int) % 65536), .int .u32 ((x0 : Int) / 65536), .int .u8 (x1 : Int), .int .u64 (x2 : Int), .int .u32 (x3 : Int), .int .u16 (x4 : Int), .int .u16 (x5 : Int), .int .u8 (x6 : Int)] 98)).cell? ⟨wr.heap.size, 3, none⟩ = some (.int .u64 (x2 : Int)) := box_cell hn 3
      have y4 : (wr.alloc (.cells #[.int .u16 ((x0 : Int) % 65536), .int .u32 ((x0 : Int) / 65536), .int .u8 (x1 : Int), .int .u64 (x2 : Int), .int .u32 (x3 : Int), .int .u16 (x4 : Int), .int .u16 (x5 : Int), .int .u8 (x6 : Int)] 98)).cell? ⟨wr.heap.size, 4, none⟩ = some (.int .u32 (x3 : Int)) := box_cell hn 4
      have y5 : (wr.alloc (.cells #[.int .u16 ((x0 : Int) % 65536), .int .u32 ((x0 : Int) / 65536), .int .u8 (x1 : Int), .int .u64 (x2 : Int), .int .u32 (x3 : Int), .int .u16 (x4 : Int), .int .u16 (x5 : Int), .int .u8 (x6 : Int)] 98)).cell? ⟨wr.heap.size, 5, none⟩ = some (.int .u16 (x4 : Int)) := box_cell hn 5
      have y6 : (wr.alloc (.cells #[.int .u16 ((x0 : Int) % 65536), .int .u32 ((x0 : Int) / 65536), .int .u8 (x1 : Int), .int .u64 (x2 : Int), .int .u32 (x3 : Int), .int .u16 (x4 : Int), .int .u16 (x5 : Int), .int .u8 (x6 : Int)] 98)).cell? ⟨wr.heap.size, 6, none⟩ = some (.int .u16 (x5 : Int)) := box_cell hn 6
      have y7 : (wr.alloc (.cells #[.int .u16 ((x0 : Int) % 65536), .int .u32 ((x0 : Int) / 65536), .int .u8 (x1 : Int), .int .u64 (x2 : Int), .int .u32 (x3 : Int), .int .u16 (x4 : Int), .int .u16 (x5 : Int), .int .u8 (x6 : Int)] 98)).cell? ⟨wr.heap.size, 7, none⟩ = some (.int .u8 (x6 : Int)) := box_cell hn 7
      have KS : Hid (∀ w', Below (wr.alloc (.cells #[.int .u16 ((x0 : Int) % 65536), .int .u32 ((x0 : Int) / 65536), .int .u8 (x1 : Int), .int .u64 (x2 : Int), .int .u32 (x3 : Int), .int .u16 (x4 : Int), .int .u16 (x5 : Int), .int .u8 (x6 : Int)] 98)).heap.size (wr.alloc (.cells #[.int .u16 ((x0 : Int) % 65536), .int .u32 ((x0 : Int) / 65536), .int .u8 (x1 : Int), .int .u64 (x2 : Int), .int .u32 (x3 : Int), .int .u16 (x4 : Int), .int .u16 (x5 : Int), .int .u8 (x6 : Int)] 98)) w' → w'.cell? ⟨wr.heap.size, 0, none⟩ = some (.int .u16 ((x0 : Int) % 65536)) ∧ w'.cell? ⟨wr.heap.size, 1, none⟩ = some (.int .u32 ((x0 : Int) / 65536)) ∧ w'.cell? ⟨wr.heap.size, 2, none⟩ = some (.int .u8 (x1 : Int)) ∧ w'.cell? ⟨wr.heap.size, 3, none⟩ = some (.int .u64 (x2 : Int)) ∧ w'.cell? ⟨wr.heap.size, 4, none⟩ = some (.int .u32 (x3 : Int)) ∧ w'.cell? ⟨wr.heap.size, 5, none⟩ = some (.int .u16 (x4 : Int)) ∧ w'.cell? ⟨wr.heap.size, 6, none⟩ = some (.int .u16 (x5 : Int)) ∧ w'.cell? ⟨wr.heap.size, 7, none⟩ = some (.int .u8 (x6 : Int))) := fun w' k => ⟨(k.cell (p := ⟨wr.heap.size, 0, none⟩) (cell_lt y0)).trans y0, (k.cell (p := ⟨wr.heap.size, 1, none⟩) (cell_lt y1)).trans y1, (k.cell (p := ⟨wr.heap.size, 2, none⟩) (cell_lt y2)).trans y2, (k.cell (p := ⟨wr.heap.size, 3, none⟩) (cell_lt y3)).trans y3, (k.cell (p := ⟨wr.heap.size, 4, none⟩) (cell_lt y4)).trans y4, (k.cell (p := ⟨wr.heap.size, 5, none⟩) (cell_lt y5)).trans y5, (k.cell (p := ⟨wr.heap.size, 6, none⟩) (cell_lt y6)).trans y6, (k.cell (p := ⟨wr.heap.size, 7, none⟩) (cell_lt y7)).trans y7⟩
      clear htw hn ex0 lx0 ex1 lx1 ex2 lx2 ex3 lx3 ex4 lx4 ex5 lx5 ex6 lx6
      generalize (List.range (7 * k)).map W = lk at *
      go_wp2_with fail
      have HLT : Hid (wr.heap.size < (wr.alloc (.cells #[.int .u16 ((x0 : Int) % 65536), .int .u32 ((x0 : Int) / 65536), .int .u8 (x1 : Int), .int .u64 (x2 : Int), .int .u32 (x3 : Int), .int .u16 (x4 : Int), .int .u16 (x5 : Int), .int .u8 (x6 : Int)] 98)).heap.size) := by show _ < _; simp
      generalize wr.alloc (.cells #[.int .u16 ((x0 : Int) % 65536), .int .u32 ((x0 : Int) / 65536), .int .u8 (x1 : Int), .int .u64 (x2 : Int), .int .u32 (x3 : Int), .int .u16 (x4 : Int), .int .u16 (x5 : Int), .int .u8 (x6 : Int)] 98) = w4 at *
      go_region_held3 (fun w' => w'.cell? ⟨wr.heap.size, 0, none⟩ = some (.int .u16 ((x0 : Int) % 65536)) ∧ w'.cell? ⟨wr.heap.size, 1, none⟩ = some (.int .u32 ((x0 : Int) / 65536)) ∧ w'.cell? ⟨wr.heap.size, 2, none⟩ = some (.int .u8 (x1 : Int)) ∧ w'.cell? ⟨wr.heap.size, 3, none⟩ = some (.int .u64 (x2 : Int)) ∧ w'.cell? ⟨wr.heap.size, 4, none⟩ = some (.int .u32 (x3 : Int)) ∧ w'.cell? ⟨wr.heap.size, 5, none⟩ = some (.int .u16 (x4 : Int)) ∧ w'.cell? ⟨wr.heap.size, 6, none⟩ = some (.int .u16 (x5 : Int)) ∧ w'.cell? ⟨wr.heap.size, 7, none⟩ = some (.int .u8 (x6 : Int))) (first | exact HS7.out | exact KS.out _ (Below.thr HB5.out (alloc_below _)) | exact KS.out _ HB5.out | exact KS.out _ (below_d _))
        (first
          | (go_at_call 219; refine (HP.out _).mono ?_; rintro e w5 ⟨rfl, hb5⟩; have HB5 := hideIt (Below.thr (below_d w4) hb5); clear hb5)
          | (refine step_append_lies _ rfl _ _ 35 rfl w.heap.size 34 i0 (.int .u64 0) 1 8 Tryz.underlying35 hi0 hz0 hz1 hz2 rfl (by decide) (.slice a9 lk.length c9) lk.length (lk.map (.int .u64)) (by first | rfl | simp [Act.eval] | simp [Act.eval, Act.put]) (owns_keep HT9.out.own (fun q hq => (Below.thr HA9.out (Below.thr HB5.out (alloc_below _))).block q (owns_lt HT9.out.own q hq).2)) ⟨w5.heap.size, 0, none⟩ 7 7 [.int .u64 (x0 : Int), .int .u64 (x1 : Int), .int .u64 (x2 : Int), .int .u64 (x3 : Int), .int .u64 (x4 : Int), .int .u64 (x5 : Int), .int .u64 (x6 : Int)] (by first | rfl | simp [Act.eval] | simp [Act.eval, Act.put]) rfl (new_cells w5 _ 34) (ones7 _ _ _ _ _ _ _) (by decide) (by have := HL9.out; unfold maxLen; omega) (by have := HL9.out; omega) (Nat.le_trans HZ9.out (Below.thr HA9.out (Below.thr HB5.out (alloc_below _))).size) _ rfl ?_; intro g7 c7 w7 hown7 hgrow7 hg7 hlt7; have HT7 := hideIt (HT9.out.app (xs := [(x0 : Int), (x1 : Int), (x2 : Int), (x3 : Int), (x4 : Int), (x5 : Int), (x6 : Int)]) (Below.thr HA9.out (Below.thr HB5.out (alloc_below _))) hown7 hgrow7 (hg7.imp (fun q => q.symm) (fun q => by rw [q]; rfl))); have HS7 : Hid (w7.cell? ⟨wr.heap.size, 0, none⟩ = some (.int .u16 ((x0 : Int) % 65536)) ∧ w7.cell? ⟨wr.heap.size, 1, none⟩ = some (.int .u32 ((x0 : Int) / 65536)) ∧ w7.cell? ⟨wr.heap.size, 2, none⟩ = some (.int .u8 (x1 : Int)) ∧ w7.cell? ⟨wr.heap.size, 3, none⟩ = some (.int .u64 (x2 : Int)) ∧ w7.cell? ⟨wr.heap.size, 4, none⟩ = some (.int .u32 (x3 : Int)) ∧ w7.cell? ⟨wr.heap.size, 5, none⟩ = some (.int .u16 (x4 : Int)) ∧ w7.cell? ⟨wr.heap.size, 6, none⟩ = some (.int .u16 (x5 : Int)) ∧ w7.cell? ⟨wr.heap.size, 7, none⟩ = some (.int .u8 (x6 : Int))) := (by have q := KS.out _ (Below.thr HB5.out (alloc_below (w := w5) (.cells #[.int .u64 (x0 : Int), .int .u64 (x1 : Int), .int .u64 (x2 : Int), .int .u64 (x3 : Int), .int .u64 (x4 : Int), .int .u64 (x5 : Int), .int .u64 (x6 : Int)] 34))); have hl4 := HLT.out; have hl5 := HB5.out.size; have hblk := hgrow7.block wr.heap.size (by simp; omega) (fun e => by have := (owns_lt HT9.out.own wr.heap.size e.symm).2; omega); obtain ⟨q0, q1, q2, q3, q4, q5, q6, q7⟩ := q; exact ⟨(World.cell?_of_block (a := ⟨wr.heap.size, 0, none⟩) hblk).trans q0, (World.cell?_of_block (a := ⟨wr.heap.size, 1, none⟩) hblk).trans q1, (World.cell?_of_block (a := ⟨wr.heap.size, 2, none⟩) hblk).trans q2, (World.cell?_of_block (a := ⟨wr.heap.size, 3, none⟩) hblk).trans q3, (World.cell?_of_block (a := ⟨wr.heap.size, 4, none⟩) hblk).trans q4, (World.cell?_of_block (a := ⟨wr.heap.size, 5, none⟩) hblk).trans q5, (World.cell?_of_block (a := ⟨wr.heap.size, 6, none⟩) hblk).trans q6, (World.cell?_of_block (a := ⟨wr.heap.size, 7, none⟩) hblk).trans q7⟩); clear hown7 hgrow7 hg7 hlt7))
      go_wp2_with fail
      go_roundw
      case rel => exact ⟨k + 1, by omega, by go_num, by rw [HY.out]; exact HT7.out⟩
      case measure => simp [intOf]; omega
    · obtain rfl : k = 16 := by omega
      obtain ⟨a9, c9, hf9⟩ := htw.form
      subst hf9
      have HT9 := hideIt htw
      clear htw
      go_wp2_with fail
      go_ret
      exact ⟨_, rfl, HT9.out.isu, HT9.out.bel⟩
end
end Go.Proofs.Qxb6500847aGreatDoor.Os
