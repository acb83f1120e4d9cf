/-
  newTable.
-/
import Derived.Test.Qxb6500847aGreatDoorOsPb
namespace Go.Proofs.Qxb6500847aGreatDoor.Os
open Go.RowKit FloorA
set_option maxRecDepth 100000
theorem made_get (z : Array Value) (n j : Nat) (hj : j < n) (hz : 0 < z.size) : (madeCells z n)[j]? = z[j % z.size]? := by
  unfold madeCells
  rw [Array.getElem?_map, Array.getElem?_range]
  rw [if_pos hj]
  simp only [Option.map_some]
  rw [getElem!_pos z (j % z.size) (Nat.mod_lt _ hz), Array.getElem?_eq_getElem (Nat.mod_lt _ hz)]
/-- make([]T, n) with T's zero row known. -/
theorem make_rows {t e : TypeId} {zs : List Value} (ht : Tryz.prog.underlying t = some (.slice e)) (hi : (Tryz.prog.info? e).map (fun i => (i.zero.map (fun z => z.cells), i.size, decide (i.bytes ≤ 100000))) = some (some zs.toArray, zs.length, true)) (n : Nat) (hn : n ≤ 1000) :
    ∀ w : World, (Instr.makeSlice t (.int .i64 (n : Int)) (.int .i64 (n : Int))).run Tryz.prog w = .ok (.slice (some ⟨w.heap.size, 0, none⟩) n n) (w.alloc (.cells (madeCells zs.toArray (n * zs.length)) e)) := by
  obtain ⟨i, hi1, hi2⟩ := Option.map_eq_some_iff.1 hi
  simp only [Prod.mk.injEq, decide_eq_true_eq] at hi2
  obtain ⟨hz, hs, hb⟩ := hi2
  obtain ⟨z, hz1, hz2⟩ := Option.map_eq_some_iff.1 hz
  intro w
  have hm : (i.bytes : Int) * (n : Int) ≤ 281474976710656 := by
    have h1 : i.bytes * n ≤ 100000 * 1000 := Nat.mul_le_mul hb hn
    have h2 : ((i.bytes * n : Nat) : Int) ≤ 281474976710656 := by omega
    rwa [Int.natCast_mul] at h2
  have := run_make (P := Tryz.prog) w t e i z ht hi1 hz1 .i64 .i64 n n (by omega) (Int.le_refl _) hm (by omega)
  rw [hz2, hs] at this
  simpa using this
theorem rows_at {w : World} {b n r : Nat} {zs : List Value} {e : TypeId} (h : w.heap[b]? = some (.cells (madeCells zs.toArray (n * zs.length)) e (0, 0))) (hr : r < n) : w.rangeAt b (r * zs.length) zs := fun j v hv => by
  have hj : j < zs.length := (List.getElem?_eq_some_iff.1 hv).1
  have hlt : r * zs.length + j < n * zs.length := by
    have : (r + 1) * zs.length ≤ n * zs.length := Nat.mul_le_mul_right _ hr
    rw [Nat.succ_mul] at this
    omega
  rw [box_cell h, made_get _ _ _ hlt (by simpa using Nat.lt_of_le_of_lt (Nat.zero_le _) hj)]
  have : (r * zs.length + j) % zs.toArray.size = j := by
    rw [List.size_toArray, Nat.add_comm, Nat.add_mul_mod_self_right, Nat.mod_eq_of_lt hj]
  rw [this, List.getElem?_toArray]
  exact hv
def NtPost (t n : Nat) (w : World) (e : Ending) (w' : World) : Prop :=
  ∃ bt ss, e = .returned (.agg #[.slice (some ⟨bt, 0, none⟩) n n, .slice (some ⟨ss, 0, none⟩) n n]) ∧ w.heap.size ≤ bt ∧ w.heap.size ≤ ss ∧ bt ≠ ss ∧ bt < w'.heap.size ∧ ss < w'.heap.size ∧ Below w.heap.size w w' ∧ (∀ r, r < n → w'.rangeAt bt (r * nC t) (rowL t (fun _ => 0))) ∧ (∀ q, w'.frozen? ⟨bt, q, none⟩ = false) ∧ (∀ j, j < n → w'.cell? ⟨ss, j, none⟩ = some (.int .u16 ((n - 1 - j : Nat) : Int))) ∧ (∀ q, w'.frozen? ⟨ss, q, none⟩ = false)
/-- newTable's loop: the result's block B, the table's tb, rows br, stack b2. -/
structure Nt (W0 : World) (B tb br b2 n k : Nat) (rows : Array Value) (ty ta : TypeId) (w : World) : Prop where
  below : Below B W0 w
  h1 : B < tb ∧ B < br ∧ B < b2 ∧ tb ≠ br ∧ tb ≠ b2 ∧ br ≠ b2
  res : ∃ x y, w.heap[B]? = some (.cells #[x, y] ta (0, 0))
  tab : w.heap[tb]? = some (.cells #[.slice (some ⟨br, 0, none⟩) n n, .slice (some ⟨b2, 0, none⟩) n n] ta (0, 0))
  row : w.heap[br]? = some (.cells rows ty (0, 0))
  stk : ∃ cur, w.heap[b2]? = some (.cells cur 29 (0, 0)) ∧ cur.size = n ∧ ∀ j, j < k → cur[j]? = some (.int .u16 ((n - 1 - j : Nat) : Int))
theorem Nt.step {W0 w : World} {B tb br b2 n k : Nat} {rows : Array Value} {ty ta : TypeId} (h : Nt W0 B tb br b2 n k rows ty ta w) (hk : k < n) : Nt W0 B tb br b2 n (k + 1) rows ty ta (w.setCell ⟨b2, k, none⟩ (.int .u16 ((n - 1 - k : Nat) : Int))) := by
  obtain ⟨a1, a2, a3, a4, a5, a6⟩ := h.h1
  obtain ⟨x, y, hr⟩ := h.res
  obtain ⟨cur, c1, c2, c3⟩ := h.stk
  refine ⟨h.below.setCell (p := ⟨b2, k, none⟩) (Nat.le_of_lt a3) _, h.h1, ⟨x, y, (Below.heap_setCell _ _ _ _ (by show B ≠ b2; omega)).trans hr⟩, (Below.heap_setCell _ _ _ _ (by show tb ≠ b2; exact a5)).trans h.tab, (Below.heap_setCell _ _ _ _ (by show br ≠ b2; exact a6)).trans h.row, _, heap_setCell_same _ _ _ _ _ _ c1, by simpa using c2, fun j hj => ?_⟩
  by_cases e : j = k
  · subst e
    rw [Array.getElem?_setIfInBounds_self_of_lt (by omega)]
  · rw [Array.getElem?_setIfInBounds_ne (by omega)]
    exact c3 j (by omega)
theorem nt_of {w : World} {n : Nat} {x y : Value} {tb b2 br : Nat} {rows : Array Value} {ty ta : TypeId} {w' : World} (hb : Below w.heap.size w w') (k0 : w'.heap[w.heap.size]? = some (.cells #[x, y] ta (0, 0))) (k1 : w'.heap[tb]? = some (.cells #[.slice (some ⟨br, 0, none⟩) n n, .slice (some ⟨b2, 0, none⟩) n n] ta (0, 0))) (k2 : w'.heap[b2]? = some (.cells (madeCells #[.int .u16 0] n) 29 (0, 0))) (k3 : w'.heap[br]? = some (.cells rows ty (0, 0))) (h1 : w.heap.size < tb ∧ w.heap.size < br ∧ w.heap.size < b2 ∧ tb ≠ br ∧ tb ≠ b2 ∧ br ≠ b2) : Nt w w.heap.size tb br b2 n 0 rows ty ta w' :=
  ⟨hb, h1, ⟨x, y, k0⟩, k1, k3, _, k2, size_madeCells _ _, fun _ hj => absurd hj (Nat.not_lt_zero _)⟩

theorem zi0 : (Tryz.prog.info? 101).map (fun i => (i.zero.map (fun z => z.cells), i.size, decide (i.bytes ≤ 100000))) = some (some (rowL 0 (fun _ => 0)).toArray, (rowL 0 (fun _ => 0)).length, true) := by kernel_rfl
set_option maxHeartbeats 3200000 in
theorem newTable_walk0 (n : Nat) (hn : n ≤ 1000) (w : World) :
    Calls Tryz.prog 36 #[.int .i64 (n : Int)] w (NtPost 0 n w) := by
  have hmk1 := make_rows Tryz.underlying92 zi0 n hn
  generalize hrw : madeCells (rowL 0 (fun _ => 0)).toArray (n * (rowL 0 (fun _ => 0)).length) = rows at *
  have HRW := hideIt hrw
  clear hrw
  have hmk2 := run_make_row' (P := Tryz.prog) 93 29 (.int .u16 0) 2 Tryz.underlying93 Tryz.info29 rfl .i64 .i64 n (by omega) (by omega)
  go_enter Tryz.func36, Tryz.ntmps36
  go_upto_region 1 with fail
  go_cut [3] (fun s3 wc => ∃ tb b2 br, s3 = .pointer (some ⟨tb, 0, none⟩) ∧ Nt w w.heap.size tb br b2 n 0 rows 101 95 wc)
  case first =>
    go_region
    all_goals
      go_wp2_with fail
      go_meet
      case rel =>
        obtain ⟨k0, k1, k2, k3, kb⟩ := four_blocks w _ _ _ _
        first
          | exact ⟨w.heap.size + 1 + 1 + 1, w.heap.size + 1 + 1, w.heap.size + 1, rfl, nt_of kb k0 k3 k2 k1 (by omega)⟩
          | exact ⟨w.heap.size + 1 + 1 + 1, w.heap.size + 1, w.heap.size + 1 + 1, rfl, nt_of kb k0 k3 k1 k2 (by omega)⟩
          | exact ⟨w.heap.size + 1 + 1, w.heap.size + 1 + 1 + 1, w.heap.size + 1, rfl, nt_of kb k0 k2 k3 k1 (by omega)⟩
          | exact ⟨w.heap.size + 1 + 1, w.heap.size + 1, w.heap.size + 1 + 1 + 1, rfl, nt_of kb k0 k2 k1 k3 (by omega)⟩
          | exact ⟨w.heap.size + 1, w.heap.size + 1 + 1 + 1, w.heap.size + 1 + 1, rfl, nt_of kb k0 k1 k3 k2 (by omega)⟩
          | exact ⟨w.heap.size + 1, w.heap.size + 1 + 1, w.heap.size + 1 + 1 + 1, rfl, nt_of kb k0 k1 k2 k3 (by omega)⟩
  case rest =>
    obtain ⟨tb, b2, br, rfl, hnt⟩ := hcut
    have HN := hideIt hnt
    have c1 := (cell_of_two hnt.tab).2
    clear hnt
    go_wp2_with fail
    go_loopw [13] (fun i wr => ∃ k : Nat, k ≤ n ∧ i = .int .i64 (k : Int) ∧ Nt w w.heap.size tb br b2 n k rows 101 95 wr) (fun i _ => n - (intOf i).toNat)
    case atStart => exact ⟨0, by omega, rfl, HN.out⟩
    case round =>
      obtain ⟨k, hk, rfl, htr⟩ := hrel
      have HR := hideIt htr
      have d0 := (cell_of_two htr.tab).1
      have d1 := (cell_of_two htr.tab).2
      by_cases hlt : k < n
      · obtain ⟨cur, q1, q2, _⟩ := htr.stk
        have d2 : wr.cell? ⟨b2, k, none⟩ = some (cur[k]'(by omega)) := by rw [box_cell q1, Array.getElem?_eq_getElem (by omega)]
        have d3 : wr.frozen? ⟨b2, k, none⟩ = false := by simp [World.frozen?, q1]
        generalize cur[k]'(by omega) = cv at d2
        have hst := htr.step hlt
        have e1 : ((n - 1 - k : Nat) : Int) = (n : Int) - 1 - (k : Int) := by omega
        rw [e1] at hst
        have HS := hideIt hst
        clear htr q1 q2 hst e1
        go_wp2_with fail
        go_roundw
        case rel => exact ⟨k + 1, by omega, by go_num, HS.out⟩
        case measure => simp [intOf]; omega
      · obtain rfl : k = n := by omega
        obtain ⟨x, y, r0⟩ := htr.res
        obtain ⟨x0, x1, f0, f1⟩ := two_cells r0
        obtain ⟨a1, a2, a3, a4, a5, a6⟩ := htr.h1
        obtain ⟨cur, q1, q2, q3⟩ := htr.stk
        have lb := heap_lt htr.row
        have ls := heap_lt q1
        have HE : Hid (((wr.setCell ⟨w.heap.size, 0, none⟩ (.slice (some ⟨br, 0, none⟩) k k)).setCell ⟨w.heap.size, 1, none⟩ (.slice (some ⟨b2, 0, none⟩) k k)).heap[w.heap.size]? = some (.cells #[.slice (some ⟨br, 0, none⟩) k k, .slice (some ⟨b2, 0, none⟩) k k] 95 (0, 0)) ∧ NtPost 0 k w (.returned (.agg #[.slice (some ⟨br, 0, none⟩) k k, .slice (some ⟨b2, 0, none⟩) k k])) ((wr.setCell ⟨w.heap.size, 0, none⟩ (.slice (some ⟨br, 0, none⟩) k k)).setCell ⟨w.heap.size, 1, none⟩ (.slice (some ⟨b2, 0, none⟩) k k))) := by
          have o1 : ∀ b, b ≠ w.heap.size → ((wr.setCell ⟨w.heap.size, 0, none⟩ (.slice (some ⟨br, 0, none⟩) k k)).setCell ⟨w.heap.size, 1, none⟩ (.slice (some ⟨b2, 0, none⟩) k k)).heap[b]? = wr.heap[b]? := fun b hb => (Below.heap_setCell _ _ _ _ hb).trans (Below.heap_setCell _ _ _ _ hb)
          have hrow := (o1 br (by omega)).trans htr.row
          have hstk := (o1 b2 (by omega)).trans q1
          rw [← HRW.out] at hrow
          refine ⟨two_set r0 _ _, br, b2, rfl, by omega, by omega, a6, by simpa using lb, by simpa using ls, two_below' htr.below (Nat.le_refl _) _ _, fun r hr => ?_, fun q => by simp only [World.frozen?, hrow]; rfl, fun j hj => (box_cell hstk j).trans (q3 j hj), fun q => by simp only [World.frozen?, hstk]; rfl⟩
          have := rows_at hrow hr
          rw [rowL_len] at this
          exact this
        clear htr q1 q2 q3 lb ls r0
        go_wp2_with fail
        exact bodyPost_ret (results_cell_row (by exact Tryz.results36) _ _ w.heap.size _ _ _ _ (by rfl) HE.out.1 Tryz.underlying95 rfl (by kernel_rfl)) rfl HE.out.2

theorem zi1 : (Tryz.prog.info? 109).map (fun i => (i.zero.map (fun z => z.cells), i.size, decide (i.bytes ≤ 100000))) = some (some (rowL 1 (fun _ => 0)).toArray, (rowL 1 (fun _ => 0)).length, true) := by kernel_rfl
set_option maxHeartbeats 3200000 in
theorem newTable_walk1 (n : Nat) (hn : n ≤ 1000) (w : World) :
    Calls Tryz.prog 37 #[.int .i64 (n : Int)] w (NtPost 1 n w) := by
  have hmk1 := make_rows Tryz.underlying102 zi1 n hn
  generalize hrw : madeCells (rowL 1 (fun _ => 0)).toArray (n * (rowL 1 (fun _ => 0)).length) = rows at *
  have HRW := hideIt hrw
  clear hrw
  have hmk2 := run_make_row' (P := Tryz.prog) 93 29 (.int .u16 0) 2 Tryz.underlying93 Tryz.info29 rfl .i64 .i64 n (by omega) (by omega)
  go_enter Tryz.func37, Tryz.ntmps37
  go_upto_region 1 with fail
  go_cut [3] (fun s3 wc => ∃ tb b2 br, s3 = .pointer (some ⟨tb, 0, none⟩) ∧ Nt w w.heap.size tb br b2 n 0 rows 109 104 wc)
  case first =>
    go_region
    all_goals
      go_wp2_with fail
      go_meet
      case rel =>
        obtain ⟨k0, k1, k2, k3, kb⟩ := four_blocks w _ _ _ _
        first
          | exact ⟨w.heap.size + 1 + 1 + 1, w.heap.size + 1 + 1, w.heap.size + 1, rfl, nt_of kb k0 k3 k2 k1 (by omega)⟩
          | exact ⟨w.heap.size + 1 + 1 + 1, w.heap.size + 1, w.heap.size + 1 + 1, rfl, nt_of kb k0 k3 k1 k2 (by omega)⟩
          | exact ⟨w.heap.size + 1 + 1, w.heap.size + 1 + 1 + 1, w.heap.size + 1, rfl, nt_of kb k0 k2 k3 k1 (by omega)⟩
          | exact ⟨w.heap.size + 1 + 1, w.heap.size + 1, w.heap.size + 1 + 1 + 1, rfl, nt_of kb k0 k2 k1 k3 (by omega)⟩
          | exact ⟨w.heap.size + 1, w.heap.size + 1 + 1 + 1, w.heap.size + 1 + 1, rfl, nt_of kb k0 k1 k3 k2 (by omega)⟩
          | exact ⟨w.heap.size + 1, w.heap.size + 1 + 1, w.heap.size + 1 + 1 + 1, rfl, nt_of kb k0 k1 k2 k3 (by omega)⟩
  case rest =>
    obtain ⟨tb, b2, br, rfl, hnt⟩ := hcut
    have HN := hideIt hnt
    have c1 := (cell_of_two hnt.tab).2
    clear hnt
    go_wp2_with fail
    go_loopw [13] (fun i wr => ∃ k : Nat, k ≤ n ∧ i = .int .i64 (k : Int) ∧ Nt w w.heap.size tb br b2 n k rows 109 104 wr) (fun i _ => n - (intOf i).toNat)
    case atStart => exact ⟨0, by omega, rfl, HN.out⟩
    case round =>
      obtain ⟨k, hk, rfl, htr⟩ := hrel
      have HR := hideIt htr
      have d0 := (cell_of_two htr.tab).1
      have d1 := (cell_of_two htr.tab).2
      by_cases hlt : k < n
      · obtain ⟨cur, q1, q2, _⟩ := htr.stk
        have d2 : wr.cell? ⟨b2, k, none⟩ = some (cur[k]'(by omega)) := by rw [box_cell q1, Array.getElem?_eq_getElem (by omega)]
        have d3 : wr.frozen? ⟨b2, k, none⟩ = false := by simp [World.frozen?, q1]
        generalize cur[k]'(by omega) = cv at d2
        have hst := htr.step hlt
        have e1 : ((n - 1 - k : Nat) : Int) = (n : Int) - 1 - (k : Int) := by omega
        rw [e1] at hst
        have HS := hideIt hst
        clear htr q1 q2 hst e1
        go_wp2_with fail
        go_roundw
        case rel => exact ⟨k + 1, by omega, by go_num, HS.out⟩
        case measure => simp [intOf]; omega
      · obtain rfl : k = n := by omega
        obtain ⟨x, y, r0⟩ := htr.res
        obtain ⟨x0, x1, f0, f1⟩ := two_cells r0
        obtain ⟨a1, a2, a3, a4, a5, a6⟩ := htr.h1
        obtain ⟨cur, q1, q2, q3⟩ := htr.stk
        have lb := heap_lt htr.row
        have ls := heap_lt q1
        have HE : Hid (((wr.setCell ⟨w.heap.size, 0, none⟩ (.slice (some ⟨br, 0, none⟩) k k)).setCell ⟨w.heap.size, 1, none⟩ (.slice (some ⟨b2, 0, none⟩) k k)).heap[w.heap.size]? = some (.cells #[.slice (some ⟨br, 0, none⟩) k k, .slice (some ⟨b2, 0, none⟩) k k] 104 (0, 0)) ∧ NtPost 1 k w (.returned (.agg #[.slice (some ⟨br, 0, none⟩) k k, .slice (some ⟨b2, 0, none⟩) k k])) ((wr.setCell ⟨w.heap.size, 0, none⟩ (.slice (some ⟨br, 0, none⟩) k k)).setCell ⟨w.heap.size, 1, none⟩ (.slice (some ⟨b2, 0, none⟩) k k))) := by
          have o1 : ∀ b, b ≠ w.heap.size → ((wr.setCell ⟨w.heap.size, 0, none⟩ (.slice (some ⟨br, 0, none⟩) k k)).setCell ⟨w.heap.size, 1, none⟩ (.slice (some ⟨b2, 0, none⟩) k k)).heap[b]? = wr.heap[b]? := fun b hb => (Below.heap_setCell _ _ _ _ hb).trans (Below.heap_setCell _ _ _ _ hb)
          have hrow := (o1 br (by omega)).trans htr.row
          have hstk := (o1 b2 (by omega)).trans q1
          rw [← HRW.out] at hrow
          refine ⟨two_set r0 _ _, br, b2, rfl, by omega, by omega, a6, by simpa using lb, by simpa using ls, two_below' htr.below (Nat.le_refl _) _ _, fun r hr => ?_, fun q => by simp only [World.frozen?, hrow]; rfl, fun j hj => (box_cell hstk j).trans (q3 j hj), fun q => by simp only [World.frozen?, hstk]; rfl⟩
          have := rows_at hrow hr
          rw [rowL_len] at this
          exact this
        clear htr q1 q2 q3 lb ls r0
        go_wp2_with fail
        exact bodyPost_ret (results_cell_row (by exact Tryz.results37) _ _ w.heap.size _ _ _ _ (by rfl) HE.out.1 Tryz.underlying104 rfl (by kernel_rfl)) rfl HE.out.2

theorem zi2 : (Tryz.prog.info? 115).map (fun i => (i.zero.map (fun z => z.cells), i.size, decide (i.bytes ≤ 100000))) = some (some (rowL 2 (fun _ => 0)).toArray, (rowL 2 (fun _ => 0)).length, true) := by kernel_rfl
set_option maxHeartbeats 3200000 in
theorem newTable_walk2 (n : Nat) (hn : n ≤ 1000) (w : World) :
    Calls Tryz.prog 38 #[.int .i64 (n : Int)] w (NtPost 2 n w) := by
  have hmk1 := make_rows Tryz.underlying110 zi2 n hn
  generalize hrw : madeCells (rowL 2 (fun _ => 0)).toArray (n * (rowL 2 (fun _ => 0)).length) = rows at *
  have HRW := hideIt hrw
  clear hrw
  have hmk2 := run_make_row' (P := Tryz.prog) 93 29 (.int .u16 0) 2 Tryz.underlying93 Tryz.info29 rfl .i64 .i64 n (by omega) (by omega)
  go_enter Tryz.func38, Tryz.ntmps38
  go_upto_region 1 with fail
  go_cut [3] (fun s3 wc => ∃ tb b2 br, s3 = .pointer (some ⟨tb, 0, none⟩) ∧ Nt w w.heap.size tb br b2 n 0 rows 115 112 wc)
  case first =>
    go_region
    all_goals
      go_wp2_with fail
      go_meet
      case rel =>
        obtain ⟨k0, k1, k2, k3, kb⟩ := four_blocks w _ _ _ _
        first
          | exact ⟨w.heap.size + 1 + 1 + 1, w.heap.size + 1 + 1, w.heap.size + 1, rfl, nt_of kb k0 k3 k2 k1 (by omega)⟩
          | exact ⟨w.heap.size + 1 + 1 + 1, w.heap.size + 1, w.heap.size + 1 + 1, rfl, nt_of kb k0 k3 k1 k2 (by omega)⟩
          | exact ⟨w.heap.size + 1 + 1, w.heap.size + 1 + 1 + 1, w.heap.size + 1, rfl, nt_of kb k0 k2 k3 k1 (by omega)⟩
          | exact ⟨w.heap.size + 1 + 1, w.heap.size + 1, w.heap.size + 1 + 1 + 1, rfl, nt_of kb k0 k2 k1 k3 (by omega)⟩
          | exact ⟨w.heap.size + 1, w.heap.size + 1 + 1 + 1, w.heap.size + 1 + 1, rfl, nt_of kb k0 k1 k3 k2 (by omega)⟩
          | exact ⟨w.heap.size + 1, w.heap.size + 1 + 1, w.heap.size + 1 + 1 + 1, rfl, nt_of kb k0 k1 k2 k3 (by omega)⟩
  case rest =>
    obtain ⟨tb, b2, br, rfl, hnt⟩ := hcut
    have HN := hideIt hnt
    have c1 := (cell_of_two hnt.tab).2
    clear hnt
    go_wp2_with fail
    go_loopw [13] (fun i wr => ∃ k : Nat, k ≤ n ∧ i = .int .i64 (k : Int) ∧ Nt w w.heap.size tb br b2 n k rows 115 112 wr) (fun i _ => n - (intOf i).toNat)
    case atStart => exact ⟨0, by omega, rfl, HN.out⟩
    case round =>
      obtain ⟨k, hk, rfl, htr⟩ := hrel
      have HR := hideIt htr
      have d0 := (cell_of_two htr.tab).1
      have d1 := (cell_of_two htr.tab).2
      by_cases hlt : k < n
      · obtain ⟨cur, q1, q2, _⟩ := htr.stk
        have d2 : wr.cell? ⟨b2, k, none⟩ = some (cur[k]'(by omega)) := by rw [box_cell q1, Array.getElem?_eq_getElem (by omega)]
        have d3 : wr.frozen? ⟨b2, k, none⟩ = false := by simp [World.frozen?, q1]
        generalize cur[k]'(by omega) = cv at d2
        have hst := htr.step hlt
        have e1 : ((n - 1 - k : Nat) : Int) = (n : Int) - 1 - (k : Int) := by omega
        rw [e1] at hst
        have HS := hideIt hst
        clear htr q1 q2 hst e1
        go_wp2_with fail
        go_roundw
        case rel => exact ⟨k + 1, by omega, by go_num, HS.out⟩
        case measure => simp [intOf]; omega
      · obtain rfl : k = n := by omega
        obtain ⟨x, y, r0⟩ := htr.res
        obtain ⟨x0, x1, f0, f1⟩ := two_cells r0
        obtain ⟨a1, a2, a3, a4, a5, a6⟩ := htr.h1
        obtain ⟨cur, q1, q2, q3⟩ := htr.stk
        have lb := heap_lt htr.row
        have ls := heap_lt q1
        have HE : Hid (((wr.setCell ⟨w.heap.size, 0, none⟩ (.slice (some ⟨br, 0, none⟩) k k)).setCell ⟨w.heap.size, 1, none⟩ (.slice (some ⟨b2, 0, none⟩) k k)).heap[w.heap.size]? = some (.cells #[.slice (some ⟨br, 0, none⟩) k k, .slice (some ⟨b2, 0, none⟩) k k] 112 (0, 0)) ∧ NtPost 2 k w (.returned (.agg #[.slice (some ⟨br, 0, none⟩) k k, .slice (some ⟨b2, 0, none⟩) k k])) ((wr.setCell ⟨w.heap.size, 0, none⟩ (.slice (some ⟨br, 0, none⟩) k k)).setCell ⟨w.heap.size, 1, none⟩ (.slice (some ⟨b2, 0, none⟩) k k))) := by
          have o1 : ∀ b, b ≠ w.heap.size → ((wr.setCell ⟨w.heap.size, 0, none⟩ (.slice (some ⟨br, 0, none⟩) k k)).setCell ⟨w.heap.size, 1, none⟩ (.slice (some ⟨b2, 0, none⟩) k k)).heap[b]? = wr.heap[b]? := fun b hb => (Below.heap_setCell _ _ _ _ hb).trans (Below.heap_setCell _ _ _ _ hb)
          have hrow := (o1 br (by omega)).trans htr.row
          have hstk := (o1 b2 (by omega)).trans q1
          rw [← HRW.out] at hrow
          refine ⟨two_set r0 _ _, br, b2, rfl, by omega, by omega, a6, by simpa using lb, by simpa using ls, two_below' htr.below (Nat.le_refl _) _ _, fun r hr => ?_, fun q => by simp only [World.frozen?, hrow]; rfl, fun j hj => (box_cell hstk j).trans (q3 j hj), fun q => by simp only [World.frozen?, hstk]; rfl⟩
          have := rows_at hrow hr
          rw [rowL_len] at this
          exact this
        clear htr q1 q2 q3 lb ls r0
        go_wp2_with fail
        exact bodyPost_ret (results_cell_row (by exact Tryz.results38) _ _ w.heap.size _ _ _ _ (by rfl) HE.out.1 Tryz.underlying112 rfl (by kernel_rfl)) rfl HE.out.2

theorem zi3 : (Tryz.prog.info? 121).map (fun i => (i.zero.map (fun z => z.cells), i.size, decide (i.bytes ≤ 100000))) = some (some (rowL 3 (fun _ => 0)).toArray, (rowL 3 (fun _ => 0)).length, true) := by kernel_rfl
set_option maxHeartbeats 3200000 in
theorem newTable_walk3 (n : Nat) (hn : n ≤ 1000) (w : World) :
    Calls Tryz.prog 39 #[.int .i64 (n : Int)] w (NtPost 3 n w) := by
  have hmk1 := make_rows Tryz.underlying116 zi3 n hn
  generalize hrw : madeCells (rowL 3 (fun _ => 0)).toArray (n * (rowL 3 (fun _ => 0)).length) = rows at *
  have HRW := hideIt hrw
  clear hrw
  have hmk2 := run_make_row' (P := Tryz.prog) 93 29 (.int .u16 0) 2 Tryz.underlying93 Tryz.info29 rfl .i64 .i64 n (by omega) (by omega)
  go_enter Tryz.func39, Tryz.ntmps39
  go_upto_region 1 with fail
  go_cut [3] (fun s3 wc => ∃ tb b2 br, s3 = .pointer (some ⟨tb, 0, none⟩) ∧ Nt w w.heap.size tb br b2 n 0 rows 121 118 wc)
  case first =>
    go_region
    all_goals
      go_wp2_with fail
      go_meet
      case rel =>
        obtain ⟨k0, k1, k2, k3, kb⟩ := four_blocks w _ _ _ _
        first
          | exact ⟨w.heap.size + 1 + 1 + 1, w.heap.size + 1 + 1, w.heap.size + 1, rfl, nt_of kb k0 k3 k2 k1 (by omega)⟩
          | exact ⟨w.heap.size + 1 + 1 + 1, w.heap.size + 1, w.heap.size + 1 + 1, rfl, nt_of kb k0 k3 k1 k2 (by omega)⟩
          | exact ⟨w.heap.size + 1 + 1, w.heap.size + 1 + 1 + 1, w.heap.size + 1, rfl, nt_of kb k0 k2 k3 k1 (by omega)⟩
          | exact ⟨w.heap.size + 1 + 1, w.heap.size + 1, w.heap.size + 1 + 1 + 1, rfl, nt_of kb k0 k2 k1 k3 (by omega)⟩
          | exact ⟨w.heap.size + 1, w.heap.size + 1 + 1 + 1, w.heap.size + 1 + 1, rfl, nt_of kb k0 k1 k3 k2 (by omega)⟩
          | exact ⟨w.heap.size + 1, w.heap.size + 1 + 1, w.heap.size + 1 + 1 + 1, rfl, nt_of kb k0 k1 k2 k3 (by omega)⟩
  case rest =>
    obtain ⟨tb, b2, br, rfl, hnt⟩ := hcut
    have HN := hideIt hnt
    have c1 := (cell_of_two hnt.tab).2
    clear hnt
    go_wp2_with fail
    go_loopw [13] (fun i wr => ∃ k : Nat, k ≤ n ∧ i = .int .i64 (k : Int) ∧ Nt w w.heap.size tb br b2 n k rows 121 118 wr) (fun i _ => n - (intOf i).toNat)
    case atStart => exact ⟨0, by omega, rfl, HN.out⟩
    case round =>
      obtain ⟨k, hk, rfl, htr⟩ := hrel
      have HR := hideIt htr
      have d0 := (cell_of_two htr.tab).1
      have d1 := (cell_of_two htr.tab).2
      by_cases hlt : k < n
      · obtain ⟨cur, q1, q2, _⟩ := htr.stk
        have d2 : wr.cell? ⟨b2, k, none⟩ = some (cur[k]'(by omega)) := by rw [box_cell q1, Array.getElem?_eq_getElem (by omega)]
        have d3 : wr.frozen? ⟨b2, k, none⟩ = false := by simp [World.frozen?, q1]
        generalize cur[k]'(by omega) = cv at d2
        have hst := htr.step hlt
        have e1 : ((n - 1 - k : Nat) : Int) = (n : Int) - 1 - (k : Int) := by omega
        rw [e1] at hst
        have HS := hideIt hst
        clear htr q1 q2 hst e1
        go_wp2_with fail
        go_roundw
        case rel => exact ⟨k + 1, by omega, by go_num, HS.out⟩
        case measure => simp [intOf]; omega
      · obtain rfl : k = n := by omega
        obtain ⟨x, y, r0⟩ := htr.res
        obtain ⟨x0, x1, f0, f1⟩ := two_cells r0
        obtain ⟨a1, a2, a3, a4, a5, a6⟩ := htr.h1
        obtain ⟨cur, q1, q2, q3⟩ := htr.stk
        have lb := heap_lt htr.row
        have ls := heap_lt q1
        have HE : Hid (((wr.setCell ⟨w.heap.size, 0, none⟩ (.slice (some ⟨br, 0, none⟩) k k)).setCell ⟨w.heap.size, 1, none⟩ (.slice (some ⟨b2, 0, none⟩) k k)).heap[w.heap.size]? = some (.cells #[.slice (some ⟨br, 0, none⟩) k k, .slice (some ⟨b2, 0, none⟩) k k] 118 (0, 0)) ∧ NtPost 3 k w (.returned (.agg #[.slice (some ⟨br, 0, none⟩) k k, .slice (some ⟨b2, 0, none⟩) k k])) ((wr.setCell ⟨w.heap.size, 0, none⟩ (.slice (some ⟨br, 0, none⟩) k k)).setCell ⟨w.heap.size, 1, none⟩ (.slice (some ⟨b2, 0, none⟩) k k))) := by
          have o1 : ∀ b, b ≠ w.heap.size → ((wr.setCell ⟨w.heap.size, 0, none⟩ (.slice (some ⟨br, 0, none⟩) k k)).setCell ⟨w.heap.size, 1, none⟩ (.slice (some ⟨b2, 0, none⟩) k k)).heap[b]? = wr.heap[b]? := fun b hb => (Below.heap_setCell _ _ _ _ hb).trans (Below.heap_setCell _ _ _ _ hb)
          have hrow := (o1 br (by omega)).trans htr.row
          have hstk := (o1 b2 (by omega)).trans q1
          rw [← HRW.out] at hrow
          refine ⟨two_set r0 _ _, br, b2, rfl, by omega, by omega, a6, by simpa using lb, by simpa using ls, two_below' htr.below (Nat.le_refl _) _ _, fun r hr => ?_, fun q => by simp only [World.frozen?, hrow]; rfl, fun j hj => (box_cell hstk j).trans (q3 j hj), fun q => by simp only [World.frozen?, hstk]; rfl⟩
          have := rows_at hrow hr
          rw [rowL_len] at this
          exact this
        clear htr q1 q2 q3 lb ls r0
        go_wp2_with fail
        exact bodyPost_ret (results_cell_row (by exact Tryz.results39) _ _ w.heap.size _ _ _ _ (by rfl) HE.out.1 Tryz.underlying118 rfl (by kernel_rfl)) rfl HE.out.2

theorem zi4 : (Tryz.prog.info? 127).map (fun i => (i.zero.map (fun z => z.cells), i.size, decide (i.bytes ≤ 100000))) = some (some (rowL 4 (fun _ => 0)).toArray, (rowL 4 (fun _ => 0)).length, true) := by kernel_rfl
set_option maxHeartbeats 3200000 in
theorem newTable_walk4 (n : Nat) (hn : n ≤ 1000) (w : World) :
    Calls Tryz.prog 40 #[.int .i64 (n : Int)] w (NtPost 4 n w) := by
  have hmk1 := make_rows Tryz.underlying122 zi4 n hn
  generalize hrw : madeCells (rowL 4 (fun _ => 0)).toArray (n * (rowL 4 (fun _ => 0)).length) = rows at *
  have HRW := hideIt hrw
  clear hrw
  have hmk2 := run_make_row' (P := Tryz.prog) 93 29 (.int .u16 0) 2 Tryz.underlying93 Tryz.info29 rfl .i64 .i64 n (by omega) (by omega)
  go_enter Tryz.func40, Tryz.ntmps40
  go_upto_region 1 with fail
  go_cut [3] (fun s3 wc => ∃ tb b2 br, s3 = .pointer (some ⟨tb, 0, none⟩) ∧ Nt w w.heap.size tb br b2 n 0 rows 127 124 wc)
  case first =>
    go_region
    all_goals
      go_wp2_with fail
      go_meet
      case rel =>
        obtain ⟨k0, k1, k2, k3, kb⟩ := four_blocks w _ _ _ _
        first
          | exact ⟨w.heap.size + 1 + 1 + 1, w.heap.size + 1 + 1, w.heap.size + 1, rfl, nt_of kb k0 k3 k2 k1 (by omega)⟩
          | exact ⟨w.heap.size + 1 + 1 + 1, w.heap.size + 1, w.heap.size + 1 + 1, rfl, nt_of kb k0 k3 k1 k2 (by omega)⟩
          | exact ⟨w.heap.size + 1 + 1, w.heap.size + 1 + 1 + 1, w.heap.size + 1, rfl, nt_of kb k0 k2 k3 k1 (by omega)⟩
          | exact ⟨w.heap.size + 1 + 1, w.heap.size + 1, w.heap.size + 1 + 1 + 1, rfl, nt_of kb k0 k2 k1 k3 (by omega)⟩
          | exact ⟨w.heap.size + 1, w.heap.size + 1 + 1 + 1, w.heap.size + 1 + 1, rfl, nt_of kb k0 k1 k3 k2 (by omega)⟩
          | exact ⟨w.heap.size + 1, w.heap.size + 1 + 1, w.heap.size + 1 + 1 + 1, rfl, nt_of kb k0 k1 k2 k3 (by omega)⟩
  case rest =>
    obtain ⟨tb, b2, br, rfl, hnt⟩ := hcut
    have HN := hideIt hnt
    have c1 := (cell_of_two hnt.tab).2
    clear hnt
    go_wp2_with fail
    go_loopw [13] (fun i wr => ∃ k : Nat, k ≤ n ∧ i = .int .i64 (k : Int) ∧ Nt w w.heap.size tb br b2 n k rows 127 124 wr) (fun i _ => n - (intOf i).toNat)
    case atStart => exact ⟨0, by omega, rfl, HN.out⟩
    case round =>
      obtain ⟨k, hk, rfl, htr⟩ := hrel
      have HR := hideIt htr
      have d0 := (cell_of_two htr.tab).1
      have d1 := (cell_of_two htr.tab).2
      by_cases hlt : k < n
      · obtain ⟨cur, q1, q2, _⟩ := htr.stk
        have d2 : wr.cell? ⟨b2, k, none⟩ = some (cur[k]'(by omega)) := by rw [box_cell q1, Array.getElem?_eq_getElem (by omega)]
        have d3 : wr.frozen? ⟨b2, k, none⟩ = false := by simp [World.frozen?, q1]
        generalize cur[k]'(by omega) = cv at d2
        have hst := htr.step hlt
        have e1 : ((n - 1 - k : Nat) : Int) = (n : Int) - 1 - (k : Int) := by omega
        rw [e1] at hst
        have HS := hideIt hst
        clear htr q1 q2 hst e1
        go_wp2_with fail
        go_roundw
        case rel => exact ⟨k + 1, by omega, by go_num, HS.out⟩
        case measure => simp [intOf]; omega
      · obtain rfl : k = n := by omega
        obtain ⟨x, y, r0⟩ := htr.res
        obtain ⟨x0, x1, f0, f1⟩ := two_cells r0
        obtain ⟨a1, a2, a3, a4, a5, a6⟩ := htr.h1
        obtain ⟨cur, q1, q2, q3⟩ := htr.stk
        have lb := heap_lt htr.row
        have ls := heap_lt q1
        have HE : Hid (((wr.setCell ⟨w.heap.size, 0, none⟩ (.slice (some ⟨br, 0, none⟩) k k)).setCell ⟨w.heap.size, 1, none⟩ (.slice (some ⟨b2, 0, none⟩) k k)).heap[w.heap.size]? = some (.cells #[.slice (some ⟨br, 0, none⟩) k k, .slice (some ⟨b2, 0, none⟩) k k] 124 (0, 0)) ∧ NtPost 4 k w (.returned (.agg #[.slice (some ⟨br, 0, none⟩) k k, .slice (some ⟨b2, 0, none⟩) k k])) ((wr.setCell ⟨w.heap.size, 0, none⟩ (.slice (some ⟨br, 0, none⟩) k k)).setCell ⟨w.heap.size, 1, none⟩ (.slice (some ⟨b2, 0, none⟩) k k))) := by
          have o1 : ∀ b, b ≠ w.heap.size → ((wr.setCell ⟨w.heap.size, 0, none⟩ (.slice (some ⟨br, 0, none⟩) k k)).setCell ⟨w.heap.size, 1, none⟩ (.slice (some ⟨b2, 0, none⟩) k k)).heap[b]? = wr.heap[b]? := fun b hb => (Below.heap_setCell _ _ _ _ hb).trans (Below.heap_setCell _ _ _ _ hb)
          have hrow := (o1 br (by omega)).trans htr.row
          have hstk := (o1 b2 (by omega)).trans q1
          rw [← HRW.out] at hrow
          refine ⟨two_set r0 _ _, br, b2, rfl, by omega, by omega, a6, by simpa using lb, by simpa using ls, two_below' htr.below (Nat.le_refl _) _ _, fun r hr => ?_, fun q => by simp only [World.frozen?, hrow]; rfl, fun j hj => (box_cell hstk j).trans (q3 j hj), fun q => by simp only [World.frozen?, hstk]; rfl⟩
          have := rows_at hrow hr
          rw [rowL_len] at this
          exact this
        clear htr q1 q2 q3 lb ls r0
        go_wp2_with fail
        exact bodyPost_ret (results_cell_row (by exact Tryz.results40) _ _ w.heap.size _ _ _ _ (by rfl) HE.out.1 Tryz.underlying124 rfl (by kernel_rfl)) rfl HE.out.2

theorem zi5 : (Tryz.prog.info? 133).map (fun i => (i.zero.map (fun z => z.cells), i.size, decide (i.bytes ≤ 100000))) = some (some (rowL 5 (fun _ => 0)).toArray, (rowL 5 (fun _ => 0)).length, true) := by kernel_rfl
set_option maxHeartbeats 3200000 in
theorem newTable_walk5 (n : Nat) (hn : n ≤ 1000) (w : World) :
    Calls Tryz.prog 41 #[.int .i64 (n : Int)] w (NtPost 5 n w) := by
  have hmk1 := make_rows Tryz.underlying128 zi5 n hn
  generalize hrw : madeCells (rowL 5 (fun _ => 0)).toArray (n * (rowL 5 (fun _ => 0)).length) = rows at *
  have HRW := hideIt hrw
  clear hrw
  have hmk2 := run_make_row' (P := Tryz.prog) 93 29 (.int .u16 0) 2 Tryz.underlying93 Tryz.info29 rfl .i64 .i64 n (by omega) (by omega)
  go_enter Tryz.func41, Tryz.ntmps41
  go_upto_region 1 with fail
  go_cut [3] (fun s3 wc => ∃ tb b2 br, s3 = .pointer (some ⟨tb, 0, none⟩) ∧ Nt w w.heap.size tb br b2 n 0 rows 133 130 wc)
  case first =>
    go_region
    all_goals
      go_wp2_with fail
      go_meet
      case rel =>
        obtain ⟨k0, k1, k2, k3, kb⟩ := four_blocks w _ _ _ _
        first
          | exact ⟨w.heap.size + 1 + 1 + 1, w.heap.size + 1 + 1, w.heap.size + 1, rfl, nt_of kb k0 k3 k2 k1 (by omega)⟩
          | exact ⟨w.heap.size + 1 + 1 + 1, w.heap.size + 1, w.heap.size + 1 + 1, rfl, nt_of kb k0 k3 k1 k2 (by omega)⟩
          | exact ⟨w.heap.size + 1 + 1, w.heap.size + 1 + 1 + 1, w.heap.size + 1, rfl, nt_of kb k0 k2 k3 k1 (by omega)⟩
          | exact ⟨w.heap.size + 1 + 1, w.heap.size + 1, w.heap.size + 1 + 1 + 1, rfl, nt_of kb k0 k2 k1 k3 (by omega)⟩
          | exact ⟨w.heap.size + 1, w.heap.size + 1 + 1 + 1, w.heap.size + 1 + 1, rfl, nt_of kb k0 k1 k3 k2 (by omega)⟩
          | exact ⟨w.heap.size + 1, w.heap.size + 1 + 1, w.heap.size + 1 + 1 + 1, rfl, nt_of kb k0 k1 k2 k3 (by omega)⟩
  case rest =>
    obtain ⟨tb, b2, br, rfl, hnt⟩ := hcut
    have HN := hideIt hnt
    have c1 := (cell_of_two hnt.tab).2
    clear hnt
    go_wp2_with fail
    go_loopw [13] (fun i wr => ∃ k : Nat, k ≤ n ∧ i = .int .i64 (k : Int) ∧ Nt w w.heap.size tb br b2 n k rows 133 130 wr) (fun i _ => n - (intOf i).toNat)
    case atStart => exact ⟨0, by omega, rfl, HN.out⟩
    case round =>
      obtain ⟨k, hk, rfl, htr⟩ := hrel
      have HR := hideIt htr
      have d0 := (cell_of_two htr.tab).1
      have d1 := (cell_of_two htr.tab).2
      by_cases hlt : k < n
      · obtain ⟨cur, q1, q2, _⟩ := htr.stk
        have d2 : wr.cell? ⟨b2, k, none⟩ = some (cur[k]'(by omega)) := by rw [box_cell q1, Array.getElem?_eq_getElem (by omega)]
        have d3 : wr.frozen? ⟨b2, k, none⟩ = false := by simp [World.frozen?, q1]
        generalize cur[k]'(by omega) = cv at d2
        have hst := htr.step hlt
        have e1 : ((n - 1 - k : Nat) : Int) = (n : Int) - 1 - (k : Int) := by omega
        rw [e1] at hst
        have HS := hideIt hst
        clear htr q1 q2 hst e1
        go_wp2_with fail
        go_roundw
        case rel => exact ⟨k + 1, by omega, by go_num, HS.out⟩
        case measure => simp [intOf]; omega
      · obtain rfl : k = n := by omega
        obtain ⟨x, y, r0⟩ := htr.res
        obtain ⟨x0, x1, f0, f1⟩ := two_cells r0
        obtain ⟨a1, a2, a3, a4, a5, a6⟩ := htr.h1
        obtain ⟨cur, q1, q2, q3⟩ := htr.stk
        have lb := heap_lt htr.row
        have ls := heap_lt q1
        have HE : Hid (((wr.setCell ⟨w.heap.size, 0, none⟩ (.slice (some ⟨br, 0, none⟩) k k)).setCell ⟨w.heap.size, 1, none⟩ (.slice (some ⟨b2, 0, none⟩) k k)).heap[w.heap.size]? = some (.cells #[.slice (some ⟨br, 0, none⟩) k k, .slice (some ⟨b2, 0, none⟩) k k] 130 (0, 0)) ∧ NtPost 5 k w (.returned (.agg #[.slice (some ⟨br, 0, none⟩) k k, .slice (some ⟨b2, 0, none⟩) k k])) ((wr.setCell ⟨w.heap.size, 0, none⟩ (.slice (some ⟨br, 0, none⟩) k k)).setCell ⟨w.heap.size, 1, none⟩ (.slice (some ⟨b2, 0, none⟩) k k))) := by
          have o1 : ∀ b, b ≠ w.heap.size → ((wr.setCell ⟨w.heap.size, 0, none⟩ (.slice (some ⟨br, 0, none⟩) k k)).setCell ⟨w.heap.size, 1, none⟩ (.slice (some ⟨b2, 0, none⟩) k k)).heap[b]? = wr.heap[b]? := fun b hb => (Below.heap_setCell _ _ _ _ hb).trans (Below.heap_setCell _ _ _ _ hb)
          have hrow := (o1 br (by omega)).trans htr.row
          have hstk := (o1 b2 (by omega)).trans q1
          rw [← HRW.out] at hrow
          refine ⟨two_set r0 _ _, br, b2, rfl, by omega, by omega, a6, by simpa using lb, by simpa using ls, two_below' htr.below (Nat.le_refl _) _ _, fun r hr => ?_, fun q => by simp only [World.frozen?, hrow]; rfl, fun j hj => (box_cell hstk j).trans (q3 j hj), fun q => by simp only [World.frozen?, hstk]; rfl⟩
          have := rows_at hrow hr
          rw [rowL_len] at this
          exact this
        clear htr q1 q2 q3 lb ls r0
        go_wp2_with fail
        exact bodyPost_ret (results_cell_row (by exact Tryz.results41) _ _ w.heap.size _ _ _ _ (by rfl) HE.out.1 Tryz.underlying130 rfl (by kernel_rfl)) rfl HE.out.2
end Go.Proofs.Qxb6500847aGreatDoor.Os
