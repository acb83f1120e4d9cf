/-
  typedWords: IRQHandler.
-/
import Derived.Test.Qxb6500847aGreatDoorOsCp
import Derived.Test.Qxb6500847aGreatDoorOxP
import Derived.Test.Qxb6500847aGreatDoorOxPz
import Derived.Deep.RegionHeld3
namespace Go.Proofs.Qxb6500847aGreatDoor.Os
open Go.RowKit FloorA
set_option maxRecDepth 100000
section
variable {A : Nat} {rb sb : Nat → Nat} {s : Av} {tl : Nat → List Int} {ws : Nat → Nat → Nat → Int} {w : World} {L : Nat → List Nat} {n : Nat}
theorem get_live5 {W1 : World} (h : Ms w A rb sb s tl ws) (hI : IV s tl L n) (hK : Kd w) (kl : 1 < w.heap.size) {i r : Nat} {g : Int} (hl : Live s i g) (ht : (s.hd i).typ = ((5 + 2 : Nat) : Int)) (er : (s.hd i).row = (r : Int)) (hb : Below w.heap.size w W1) :
    Calls Tryz.prog 201 #[.pointer (some ⟨A, 0, none⟩), .agg #[.int .u16 (i : Int), .int .u32 g]] W1 (fun e w' => e = .returned (.tuple #[.agg (rowL 5 (ws 5 r)).toArray, .nilIface]) ∧ Below w.heap.size w w') := by
  refine (get_at5 h hI hK kl i g hb).mono ?_
  rintro e w' ⟨hb', ⟨_, _, r', er', _, rfl⟩ | ⟨hn, _⟩⟩
  · obtain rfl : r' = r := by rw [er] at er'; omega
    exact ⟨rfl, hb'⟩
  · exact absurd ⟨hl, ht⟩ hn
set_option maxHeartbeats 8000000 in
theorem typed5 (h : Ms w A rb sb s tl ws) (hI : IV s tl L n) (hW : Wr ws) (hK : Kd w) (kl : 1 < w.heap.size) {i r : Nat} {g : Int} (hl : Live s i g) (ht : (s.hd i).typ = ((5 + 2 : Nat) : Int)) (er : (s.hd i).row = (r : Int)) (r1 : r < nR 5) :
    Calls Tryz.prog 93 #[.pointer (some ⟨A, 0, none⟩), .agg #[.int .u16 (i : Int), .int .u32 g], .int .u8 7] w fun e w' => ∃ v, e = .returned v ∧ IsU w.heap.size w' v (wlist (nF 5) (ws 5 r)) ∧ Below w.heap.size w w' := by
  have hb0 := alloc_below (w := w) (.cells #[.int .u16 (i : Int), .int .u32 g] 32)
  have hz : (w.alloc (.cells #[.int .u16 (i : Int), .int .u32 g] 32)).heap[w.heap.size]? = some (.cells #[.int .u16 (i : Int), .int .u32 g] 32 (0, 0)) := heap_new _ _
  obtain ⟨z0, z1, _, _⟩ := two_cells hz
  have hG := get_live5 h hI hK kl hl ht er hb0
  have hq := (hW 5 r (by decide) r1).1
  obtain ⟨x0, ex0, lx0⟩ : ∃ x : Nat, ws 5 r 0 = (x : Int) ∧ x < 256 := by have := hq 0 (by decide); exact ⟨(ws 5 r 0).toNat, by omega, by simp [fMax] at this; omega⟩
  obtain ⟨x1, ex1, lx1⟩ : ∃ x : Nat, ws 5 r 1 = (x : Int) ∧ x < 281474976710656 := by have := hq 1 (by decide); exact ⟨(ws 5 r 1).toNat, by omega, by simp [fMax] at this; omega⟩
  obtain ⟨x2, ex2, lx2⟩ : ∃ x : Nat, ws 5 r 2 = (x : Int) ∧ x < 18446744073709551616 := by have := hq 2 (by decide); exact ⟨(ws 5 r 2).toNat, by omega, by simp [fMax] at this; omega⟩
  obtain ⟨x3, ex3, lx3⟩ : ∃ x : Nat, ws 5 r 3 = (x : Int) ∧ x < 2 := by have := hq 3 (by decide); exact ⟨(ws 5 r 3).toNat, by omega, by simp [fMax] at this; omega⟩
  have hrow : (rowL 5 (ws 5 r)).toArray = #[.int .u8 (x0 : Int), .int .u16 ((x1 : Int) % 65536), .int .u32 ((x1 : Int) / 65536), .int .u64 (x2 : Int), .bool (decide ((x3 : Int) = 1))] := by simp only [rowL, lo, hi, bo, ex0, ex1, ex2, ex3]
  have hres : wlist (nF 5) (ws 5 r) = [(x0 : Int), (x1 : Int), (x2 : Int), (x3 : Int)] := by
    show (List.range 4).map (ws 5 r) = _
    simp only [List.range, List.range.loop, List.map_cons, List.map_nil, ex0, ex1, ex2, ex3]
  rw [hrow] at hG
  rw [hres]
  have HG := hideIt hG
  have HB0 := hideIt hb0
  have hw0 : IntKind.u64.wrap (x0 : Int) = (x0 : Int) := u64_same (by omega) (by omega)
  have HP1 := hideIt (fun W => Pack_walk x1 lx1 W)
  have HF3 : Hid (∀ W, Calls Tryz.prog 69 #[.bool (decide ((x3 : Int) = 1))] W fun e w' => e = .returned (.int .u64 (x3 : Int)) ∧ w' = W) := fun W => by
    have e : (if decide ((x3 : Int) = 1) = true then (1 : Int) else 0) = (x3 : Int) := by
      by_cases q : (x3 : Int) = 1 <;> simp [q] <;> omega
    have := flag_x (decide ((x3 : Int) = 1)) W
    rw [e] at this
    exact this
  clear h hI hW hK hl ht er r1 hG hb0 hq hrow hres hz ex0 ex1 ex2 ex3
  go_enter Tryz.func93, Tryz.ntmps93
  go_wp2_with fail
  go_at_call 201
  refine HG.out.mono ?_
  rintro e w2 ⟨rfl, hb2⟩
  have HB2 := hideIt hb2
  have HA2 := hideIt (alloc_below (w := w2) (.cells #[.int .u8 (x0 : Int), .int .u16 ((x1 : Int) % 65536), .int .u32 ((x1 : Int) / 65536), .int .u64 (x2 : Int), .bool (decide ((x3 : Int) = 1))] 133))
  have hn := heap_new w2 (.cells #[.int .u8 (x0 : Int), .int .u16 ((x1 : Int) % 65536), .int .u32 ((x1 : Int) / 65536), .int .u64 (x2 : Int), .bool (decide ((x3 : Int) = 1))] 133)
  have y0 : (w2.alloc (.cells #[.int .u8 (x0 : Int), .int .u16 ((x1 : Int) % 65536), .int .u32 ((x1 : Int) / 65536), .int .u64 (x2 : Int), .bool (decide ((x3 : Int) = 1))] 133)).cell? ⟨w2.heap.size, 0, none⟩ = some (.int .u8 (x0 : Int)) := box_cell hn 0
  have y1 : (w2.alloc (.cells #[.int .u8 (x0 : Int), .int .u16 ((x1 : Int) % 65536), .int .u32 ((x1 : Int) / 65536), .int .u64 (x2 : Int), .bool (decide ((x3 : Int) = 1))] 133)).cell? ⟨w2.heap.size, 1, none⟩ = some (.int .u16 ((x1 : Int) % 65536)) := box_cell hn 1
  have y2 : (w2.alloc (.cells #[.int .u8 (x0 : Int), .int .u16 ((x1 : Int) % 65536), .int .u32 ((x1 : Int) / 65536), .int .u64 (x2 : Int), .bool (decide ((x3 : Int) = 1))] 133)).cell? ⟨w2.heap.size, 2, none⟩ = some (.int .u32 ((x1 : Int) / 65536)) := box_cell hn 2
  have y3 : (w2.alloc (.cells #[.int .u8 (x0 : Int), .int .u16 ((x1 : Int) % 65536), .int .u32 ((x1 : Int) / 65536), .int .u64 (x2 : Int), .bool (decide ((x3 : Int) = 1))] 133)).cell? ⟨w2.heap.size, 3, none⟩ = some (.int .u64 (x2 : Int)) := box_cell hn 3
  have y4 : (w2.alloc (.cells #[.int .u8 (x0 : Int), .int .u16 ((x1 : Int) % 65536), .int .u32 ((x1 : Int) / 65536), .int .u64 (x2 : Int), .bool (decide ((x3 : Int) = 1))] 133)).cell? ⟨w2.heap.size, 4, none⟩ = some (.bool (decide ((x3 : Int) = 1))) := box_cell hn 4
  clear hb2 hn HG z0 z1
  go_wp2_with fail
  have KS : Hid (∀ w', Below (w2.alloc (.cells #[.int .u8 (x0 : Int), .int .u16 ((x1 : Int) % 65536), .int .u32 ((x1 : Int) / 65536), .int .u64 (x2 : Int), .bool (decide ((x3 : Int) = 1))] 133)).heap.size (w2.alloc (.cells #[.int .u8 (x0 : Int), .int .u16 ((x1 : Int) % 65536), .int .u32 ((x1 : Int) / 65536), .int .u64 (x2 : Int), .bool (decide ((x3 : Int) = 1))] 133)) w' → w'.cell? ⟨w2.heap.size, 0, none⟩ = some (.int .u8 (x0 : Int)) ∧ w'.cell? ⟨w2.heap.size, 1, none⟩ = some (.int .u16 ((x1 : Int) % 65536)) ∧ w'.cell? ⟨w2.heap.size, 2, none⟩ = some (.int .u32 ((x1 : Int) / 65536)) ∧ w'.cell? ⟨w2.heap.size, 3, none⟩ = some (.int .u64 (x2 : Int)) ∧ w'.cell? ⟨w2.heap.size, 4, none⟩ = some (.bool (decide ((x3 : Int) = 1)))) := fun w' k => ⟨(k.cell (p := ⟨w2.heap.size, 0, none⟩) (cell_lt y0)).trans y0, (k.cell (p := ⟨w2.heap.size, 1, none⟩) (cell_lt y1)).trans y1, (k.cell (p := ⟨w2.heap.size, 2, none⟩) (cell_lt y2)).trans y2, (k.cell (p := ⟨w2.heap.size, 3, none⟩) (cell_lt y3)).trans y3, (k.cell (p := ⟨w2.heap.size, 4, none⟩) (cell_lt y4)).trans y4⟩
  go_region_held3 (fun w' => w'.cell? ⟨w2.heap.size, 0, none⟩ = some (.int .u8 (x0 : Int)) ∧ w'.cell? ⟨w2.heap.size, 1, none⟩ = some (.int .u16 ((x1 : Int) % 65536)) ∧ w'.cell? ⟨w2.heap.size, 2, none⟩ = some (.int .u32 ((x1 : Int) / 65536)) ∧ w'.cell? ⟨w2.heap.size, 3, none⟩ = some (.int .u64 (x2 : Int)) ∧ w'.cell? ⟨w2.heap.size, 4, none⟩ = some (.bool (decide ((x3 : Int) = 1)))) (first | exact KS.out _ (below_d _) | exact KS.out _ HB5.out | exact KS.out _ (Below.thr HB5.out (alloc_below _)) | go_keep)
    (first | (go_at_call 219; refine (HP1.out _).mono ?_; rintro e w5 ⟨rfl, hb5⟩; have HB5 := hideIt (Below.thr (below_d _) hb5)) | (go_at_call 69; refine (HF3.out _).mono ?_; rintro e w' ⟨rfl, hw'⟩; obtain rfl := hw'.symm; clear hw'))
  all_goals
    go_wp2_with fail
    go_ret
    exact ⟨_, rfl, isU_arr (l := [(x0 : Int), (x1 : Int), (x2 : Int), (x3 : Int)]) (heap_new _ _) rfl rfl (Nat.le_trans HB2.out.size (Nat.le_trans HA2.out.size HB5.out.size)), Below.thr HB2.out (Below.thr HA2.out (Below.thr HB5.out (alloc_below _)))⟩
end
end Go.Proofs.Qxb6500847aGreatDoor.Os
