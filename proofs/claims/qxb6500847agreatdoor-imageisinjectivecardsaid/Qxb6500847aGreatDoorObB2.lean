/-
  typedWords: Endpoint.
-/
import Derived.Test.Qxb6500847aGreatDoorOsCp
import Derived.Test.Qxb6500847aGreatDoorOxP
import Derived.Test.Qxb6500847aGreatDoorOxPz
import Derived.Deep.RegionHeld3
namespace Go.Proofs.Qxb6500847aGreatDoor.Os
open Go.RowKit FloorA
set_option maxRecDepth 100000
section
variable {A : Nat} {rb sb : Nat → Nat} {s : Av} {tl : Nat → List Int} {ws : Nat → Nat → Nat → Int} {w : World} {L : Nat → List Nat} {n : Nat}
theorem get_live2 {W1 : World} (h : Ms w A rb sb s tl ws) (hI : IV s tl L n) (hK : Kd w) (kl : 1 < w.heap.size) {i r : Nat} {g : Int} (hl : Live s i g) (ht : (s.hd i).typ = ((2 + 2 : Nat) : Int)) (er : (s.hd i).row = (r : Int)) (hb : Below w.heap.size w W1) :
    Calls Tryz.prog 195 #[.pointer (some ⟨A, 0, none⟩), .agg #[.int .u16 (i : Int), .int .u32 g]] W1 (fun e w' => e = .returned (.tuple #[.agg (rowL 2 (ws 2 r)).toArray, .nilIface]) ∧ Below w.heap.size w w') := by
  refine (get_at2 h hI hK kl i g hb).mono ?_
  rintro e w' ⟨hb', ⟨_, _, r', er', _, rfl⟩ | ⟨hn, _⟩⟩
  · obtain rfl : r' = r := by rw [er] at er'; omega
    exact ⟨rfl, hb'⟩
  · exact absurd ⟨hl, ht⟩ hn
set_option maxHeartbeats 8000000 in
theorem typed2 (h : Ms w A rb sb s tl ws) (hI : IV s tl L n) (hW : Wr ws) (hK : Kd w) (kl : 1 < w.heap.size) {i r : Nat} {g : Int} (hl : Live s i g) (ht : (s.hd i).typ = ((2 + 2 : Nat) : Int)) (er : (s.hd i).row = (r : Int)) (r1 : r < nR 2) :
    Calls Tryz.prog 93 #[.pointer (some ⟨A, 0, none⟩), .agg #[.int .u16 (i : Int), .int .u32 g], .int .u8 4] w fun e w' => ∃ v, e = .returned v ∧ IsU w.heap.size w' v (wlist (nF 2) (ws 2 r)) ∧ Below w.heap.size w w' := by
  have hb0 := alloc_below (w := w) (.cells #[.int .u16 (i : Int), .int .u32 g] 32)
  have hz : (w.alloc (.cells #[.int .u16 (i : Int), .int .u32 g] 32)).heap[w.heap.size]? = some (.cells #[.int .u16 (i : Int), .int .u32 g] 32 (0, 0)) := heap_new _ _
  obtain ⟨z0, z1, _, _⟩ := two_cells hz
  have hG := get_live2 h hI hK kl hl ht er hb0
  have hq := (hW 2 r (by decide) r1).1
  obtain ⟨x0, ex0, lx0⟩ : ∃ x : Nat, ws 2 r 0 = (x : Int) ∧ x < 256 := by have := hq 0 (by decide); exact ⟨(ws 2 r 0).toNat, by omega, by simp [fMax] at this; omega⟩
  obtain ⟨x1, ex1, lx1⟩ : ∃ x : Nat, ws 2 r 1 = (x : Int) ∧ x < 65536 := by have := hq 1 (by decide); exact ⟨(ws 2 r 1).toNat, by omega, by simp [fMax] at this; omega⟩
  obtain ⟨x2, ex2, lx2⟩ : ∃ x : Nat, ws 2 r 2 = (x : Int) ∧ x < 65536 := by have := hq 2 (by decide); exact ⟨(ws 2 r 2).toNat, by omega, by simp [fMax] at this; omega⟩
  have hrow : (rowL 2 (ws 2 r)).toArray = #[.int .u8 (x0 : Int), .int .u16 (x1 : Int), .int .u16 (x2 : Int)] := by simp only [rowL, ex0, ex1, ex2]
  have hres : wlist (nF 2) (ws 2 r) = [(x0 : Int), (x1 : Int), (x2 : Int)] := by
    show (List.range 3).map (ws 2 r) = _
    simp only [List.range, List.range.loop, List.map_cons, List.map_nil, ex0, ex1, ex2]
  rw [hrow] at hG
  rw [hres]
  have HG := hideIt hG
  have HB0 := hideIt hb0
  have hw0 : IntKind.u64.wrap (x0 : Int) = (x0 : Int) := u64_same (by omega) (by omega)
  have hw1 : IntKind.u64.wrap (x1 : Int) = (x1 : Int) := u64_same (by omega) (by omega)
  have hw2 : IntKind.u64.wrap (x2 : Int) = (x2 : Int) := u64_same (by omega) (by omega)
  clear h hI hW hK hl ht er r1 hG hb0 hq hrow hres hz ex0 ex1 ex2
  go_enter Tryz.func93, Tryz.ntmps93
  go_wp2_with fail
  go_at_call 195
  refine HG.out.mono ?_
  rintro e w2 ⟨rfl, hb2⟩
  have HB2 := hideIt hb2
  have HA2 := hideIt (alloc_below (w := w2) (.cells #[.int .u8 (x0 : Int), .int .u16 (x1 : Int), .int .u16 (x2 : Int)] 115))
  have hn := heap_new w2 (.cells #[.int .u8 (x0 : Int), .int .u16 (x1 : Int), .int .u16 (x2 : Int)] 115)
  have y0 : (w2.alloc (.cells #[.int .u8 (x0 : Int), .int .u16 (x1 : Int), .int .u16 (x2 : Int)] 115)).cell? ⟨w2.heap.size, 0, none⟩ = some (.int .u8 (x0 : Int)) := box_cell hn 0
  have y1 : (w2.alloc (.cells #[.int .u8 (x0 : Int), .int .u16 (x1 : Int), .int .u16 (x2 : Int)] 115)).cell? ⟨w2.heap.size, 1, none⟩ = some (.int .u16 (x1 : Int)) := box_cell hn 1
  have y2 : (w2.alloc (.cells #[.int .u8 (x0 : Int), .int .u16 (x1 : Int), .int .u16 (x2 : Int)] 115)).cell? ⟨w2.heap.size, 2, none⟩ = some (.int .u16 (x2 : Int)) := box_cell hn 2
  clear hb2 hn HG z0 z1
  go_wp2_with fail
  go_ret
  exact ⟨_, rfl, isU_arr (l := [(x0 : Int), (x1 : Int), (x2 : Int)]) (new_at _ _ (by simp)) rfl rfl (Nat.le_trans HB2.out.size (Nat.le_succ _)), Below.thr HB2.out (Below.thr HA2.out (alloc_below _))⟩
end
end Go.Proofs.Qxb6500847aGreatDoor.Os
