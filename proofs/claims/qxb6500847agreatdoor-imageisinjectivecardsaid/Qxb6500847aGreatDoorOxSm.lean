/-
  Result.Same on two results that are the same.
-/
import Derived.Test.Qxb6500847aGreatDoorOxQa
import Derived.Test.Qxb6500847aGreatDoorOxEq
namespace Go.Proofs.Qxb6500847aGreatDoor.Os
open Go.RowKit FloorA
set_option maxRecDepth 100000
theorem refL_get {l : List (Nat × Int)} {k : Nat} {r : Nat × Int} (h : l[k]? = some r) : (refL l)[k * 2]? = some (.int .u16 (r.1 : Int)) ∧ (refL l)[k * 2 + 1]? = some (.int .u32 r.2) := by
  induction l generalizing k with
  | nil => simp at h
  | cons a l ih =>
    match k, h with
    | 0, h => simp at h; subst h; exact ⟨rfl, rfl⟩
    | k + 1, h =>
      obtain ⟨h1, h2⟩ := ih (k := k) (by simpa using h)
      have e1 : (k + 1) * 2 = k * 2 + 2 := by omega
      rw [e1]
      exact ⟨h1, h2⟩
theorem eq_ref (i : Nat) (g : Int) (w : World) : (binOp .neq 32 (.agg #[.int .u16 (i : Int), .int .u32 g]) (.agg #[.int .u16 (i : Int), .int .u32 g])).run Tryz.prog w = .ok (.bool false) w := by
  have h := eq_self (P := Tryz.prog) 10000 32 [.int .u16 (i : Int), .int .u32 g] (by kernel_rfl) w
  have e : valT Tryz.prog 32 [.int .u16 (i : Int), .int .u32 g] = .agg #[.int .u16 (i : Int), .int .u32 g] := by
    unfold valT
    rw [if_pos (by kernel_rfl)]
  rw [e] at h
  rw [run_neq_struct, h]
  rfl
set_option maxHeartbeats 4000000 in
theorem same_walk {w : World} {B B' : Nat} {code : Int} {r1 u1 r2 u2 : Value} {R : List (Nat × Int)} {V : List Int} (hr1 : IsR B w r1 R) (hu1 : IsU B w u1 V) (hr2 : IsR B' w r2 R) (hu2 : IsU B' w u2 V) (hR : R.length ≤ 4096) (hV : V.length ≤ 4096) :
    Calls Tryz.prog 18 #[.agg #[.int .u8 code, r1, u1], .agg #[.int .u8 code, r2, u2]] w fun e w' => e = .returned (.bool true) ∧ Below w.heap.size w w' := by
  have bB := two_below (w := w) (.cells #[.int .u8 code, r1, u1] 57) (.cells #[.int .u8 code, r2, u2] 57)
  have ha1 : (((w.alloc (.cells #[.int .u8 code, r1, u1] 57)).alloc (.cells #[.int .u8 code, r2, u2] 57))).heap[w.heap.size]? = some (.cells #[.int .u8 code, r1, u1] 57 (0, 0)) := (heap_alloc_old _ _ (by simp)).trans (heap_new _ _)
  have ha2 : (((w.alloc (.cells #[.int .u8 code, r1, u1] 57)).alloc (.cells #[.int .u8 code, r2, u2] 57))).heap[w.heap.size + 1]? = some (.cells #[.int .u8 code, r2, u2] 57 (0, 0)) := new_at _ _ (Deep.nblk_alloc _ _)
  have k1 := Sq.below hr1 bB
  have k2 := Sq.below hu1 bB
  have k3 := Sq.below hr2 bB
  have k4 := Sq.below hu2 bB
  obtain ⟨a1, c1, rfl, f1⟩ := k1
  obtain ⟨a2, c2, rfl, f2⟩ := k2
  obtain ⟨a3, c3, rfl, f3⟩ := k3
  obtain ⟨a4, c4, rfl, f4⟩ := k4
  clear hr1 hu1 hr2 hu2
  have HB := hideIt bB
  have z0 : (((w.alloc (.cells #[.int .u8 code, .slice a1 R.length c1, .slice a2 V.length c2] 57)).alloc (.cells #[.int .u8 code, .slice a3 R.length c3, .slice a4 V.length c4] 57))).cell? ⟨w.heap.size, 0, none⟩ = some (.int .u8 code) := box_cell ha1 0
  have z1 : (((w.alloc (.cells #[.int .u8 code, .slice a1 R.length c1, .slice a2 V.length c2] 57)).alloc (.cells #[.int .u8 code, .slice a3 R.length c3, .slice a4 V.length c4] 57))).cell? ⟨w.heap.size, 1, none⟩ = some (.slice a1 R.length c1) := box_cell ha1 1
  have z2 : (((w.alloc (.cells #[.int .u8 code, .slice a1 R.length c1, .slice a2 V.length c2] 57)).alloc (.cells #[.int .u8 code, .slice a3 R.length c3, .slice a4 V.length c4] 57))).cell? ⟨w.heap.size, 2, none⟩ = some (.slice a2 V.length c2) := box_cell ha1 2
  have y0 : (((w.alloc (.cells #[.int .u8 code, .slice a1 R.length c1, .slice a2 V.length c2] 57)).alloc (.cells #[.int .u8 code, .slice a3 R.length c3, .slice a4 V.length c4] 57))).cell? ⟨w.heap.size + 1, 0, none⟩ = some (.int .u8 code) := box_cell ha2 0
  have y1 : (((w.alloc (.cells #[.int .u8 code, .slice a1 R.length c1, .slice a2 V.length c2] 57)).alloc (.cells #[.int .u8 code, .slice a3 R.length c3, .slice a4 V.length c4] 57))).cell? ⟨w.heap.size + 1, 1, none⟩ = some (.slice a3 R.length c3) := box_cell ha2 1
  have y2 : (((w.alloc (.cells #[.int .u8 code, .slice a1 R.length c1, .slice a2 V.length c2] 57)).alloc (.cells #[.int .u8 code, .slice a3 R.length c3, .slice a4 V.length c4] 57))).cell? ⟨w.heap.size + 1, 2, none⟩ = some (.slice a4 V.length c4) := box_cell ha2 2
  have HF1 := hideIt f1
  have HF2 := hideIt f2
  have HF3 := hideIt f3
  have HF4 := hideIt f4
  clear f1 f2 f3 f4 bB ha1 ha2
  go_enter Tryz.func18, Tryz.ntmps18
  go_upto_region 1 with fail
  generalize (w.alloc (.cells #[.int .u8 code, .slice a1 R.length c1, .slice a2 V.length c2] 57)).alloc (.cells #[.int .u8 code, .slice a3 R.length c3, .slice a4 V.length c4] 57) = w0 at *
  have HZ1 := hideIt z1
  have HZ2 := hideIt z2
  have HY1 := hideIt y1
  have HY2 := hideIt y2
  go_wp2_with fail
  clear z0 z1 z2 y0 y1 y2
  go_loopw [33] (fun v33 wr => ∃ k : Nat, k ≤ R.length ∧ v33 = .int .i64 (k : Int) ∧ Below w0.heap.size w0 wr) (fun i _ => R.length - (intOf i).toNat)
  case atStart => exact ⟨0, Nat.zero_le _, rfl, Below.refl _ _⟩
  case round =>
    obtain ⟨k, hk, rfl, hbr⟩ := hrel
    have z1 := (hbr.cell (p := ⟨w.heap.size, 1, none⟩) (cell_lt HZ1.out)).trans HZ1.out
    have z2 := (hbr.cell (p := ⟨w.heap.size, 2, none⟩) (cell_lt HZ2.out)).trans HZ2.out
    have y1 := (hbr.cell (p := ⟨w.heap.size + 1, 1, none⟩) (cell_lt HY1.out)).trans HY1.out
    have y2 := (hbr.cell (p := ⟨w.heap.size + 1, 2, none⟩) (cell_lt HY2.out)).trans HY2.out
    have HBR := hideIt hbr
    by_cases hlt : k < R.length
    · have hlt' : (k : Int) < (R.length : Int) := by omega
      obtain ⟨b1, o1, rfl, _, g1⟩ := HF1.out (by omega)
      obtain ⟨b3, o3, rfl, _, g3⟩ := HF3.out (by omega)
      obtain ⟨q1, q2⟩ := refL_get (List.getElem?_eq_getElem hlt)
      have x0 := (hbr.cell (p := ⟨b1, o1 + k * 2, none⟩) (cell_lt (g1 _ _ q1))).trans (g1 _ _ q1)
      have x1 := (hbr.cell (p := ⟨b1, o1 + (k * 2 + 1), none⟩) (cell_lt (g1 _ _ q2))).trans (g1 _ _ q2)
      have x2 := (hbr.cell (p := ⟨b3, o3 + k * 2, none⟩) (cell_lt (g3 _ _ q1))).trans (g3 _ _ q1)
      have x3 := (hbr.cell (p := ⟨b3, o3 + (k * 2 + 1), none⟩) (cell_lt (g3 _ _ q2))).trans (g3 _ _ q2)
      have xe := eq_ref (R[k]).1 (R[k]).2 wr
      have xd := eq_ref (R[k]).1 (R[k]).2 wr.drew
      clear q1 q2 g1 g3 hbr
      generalize (R[k]).1 = ri at *
      generalize (R[k]).2 = rg at *
      rw [← Nat.add_assoc] at x1 x3
      go_wp2_with fail
      go_region
      all_goals
        go_wp2_with fail
        go_roundw
        case rel => exact ⟨k + 1, by omega, by go_num, Below.thr HBR.out (below_d _)⟩
        case measure => simp [intOf]; omega
    · obtain rfl : k = R.length := by omega
      clear hbr
      go_wp2_with fail
      clear z1 z2 y1 y2
      go_loopw [51] (fun v51 wr => ∃ k : Nat, k ≤ V.length ∧ v51 = .int .i64 (k : Int) ∧ Below w0.heap.size w0 wr) (fun i _ => V.length - (intOf i).toNat)
      case atStart => exact ⟨0, Nat.zero_le _, rfl, HBR.out⟩
      case round =>
        obtain ⟨j, hj, rfl, hbr⟩ := hrel
        have z2 := (hbr.cell (p := ⟨w.heap.size, 2, none⟩) (cell_lt HZ2.out)).trans HZ2.out
        have y2 := (hbr.cell (p := ⟨w.heap.size + 1, 2, none⟩) (cell_lt HY2.out)).trans HY2.out
        have HBS := hideIt hbr
        by_cases hlj : j < V.length
        · have hlj' : (j : Int) < (V.length : Int) := by omega
          obtain ⟨b2, o2, rfl, _, g2⟩ := HF2.out (by omega)
          obtain ⟨b4, o4, rfl, _, g4⟩ := HF4.out (by omega)
          have q1 : (V.map (Value.int .u64))[j]? = some (.int .u64 V[j]) := by rw [List.getElem?_map, List.getElem?_eq_getElem hlj]; rfl
          have x0 := (hbr.cell (p := ⟨b2, o2 + j, none⟩) (cell_lt (g2 _ _ q1))).trans (g2 _ _ q1)
          have x2 := (hbr.cell (p := ⟨b4, o4 + j, none⟩) (cell_lt (g4 _ _ q1))).trans (g4 _ _ q1)
          clear q1 g2 g4 hbr
          generalize V[j] = vi at *
          go_wp2_with fail
          go_region
          all_goals
            go_wp2_with fail
            go_roundw
            case rel => exact ⟨j + 1, by omega, by go_num, Below.thr HBS.out (below_d _)⟩
            case measure => simp [intOf]; omega
        · obtain rfl : j = V.length := by omega
          clear hbr
          go_wp2_with fail
          go_ret
          exact ⟨rfl, Below.thr HB.out HBS.out⟩
end Go.Proofs.Qxb6500847aGreatDoor.Os
