/-
  The walks of newTable at its six payload types.
-/
import Derived.Test.Qxb6500847aGreatDoorFloorC
import Derived.RegionTactic
import Derived.Deep.DeepCutAuto
import Derived.Deep.OwnRows
namespace Go.Proofs.Qxb6500847aGreatDoor.FloorA
open Go.RowKit
set_option maxRecDepth 100000

theorem Tryz.info29 : (Tryz.prog.info? 29).map (fun i => (i.zero, i.size, i.bytes)) = some (some (.int .u16 0), 1, 2) := by kernel_rfl

/-- make([]T, n), T whatever: some row of cells. -/
theorem make_some {t e : TypeId} (ht : Tryz.prog.underlying t = some (.slice e)) (hi : (Tryz.prog.info? e).map (fun i => (i.zero.isSome, decide (i.bytes ≤ 100000))) = some (true, true)) (n : Nat) (hn : n ≤ 1000) :
    ∃ cs : Array Value, ∀ w : World, (Instr.makeSlice t (.int .i64 (n : Int)) (.int .i64 (n : Int))).run Tryz.prog w = .ok (.slice (some ⟨w.heap.size, 0, none⟩) n n) (w.alloc (.cells cs e)) := by
  obtain ⟨i, hi1, hi2⟩ := Option.map_eq_some_iff.1 hi
  simp only [Prod.mk.injEq, decide_eq_true_eq] at hi2
  obtain ⟨hz, hb⟩ := hi2
  obtain ⟨z, hz⟩ := Option.isSome_iff_exists.1 hz
  refine ⟨madeCells z.cells (n * i.size), fun w => ?_⟩
  have hm : (i.bytes : Int) * (n : Int) ≤ 281474976710656 := by
    have h1 : i.bytes * n ≤ 100000 * 1000 := Nat.mul_le_mul hb hn
    have h2 : ((i.bytes * n : Nat) : Int) ≤ 281474976710656 := by omega
    rwa [Int.natCast_mul] at h2
  have := run_make (P := Tryz.prog) w t e i z ht hi1 hz .i64 .i64 n n (by omega) (Int.le_refl _) hm (by omega)
  simpa using this

/-- What is known of memory in newTable's loop: the result's cell, the table and the row of its stack. -/
structure Tab (W0 : World) (B bt b2 n : Nat) (r s : Value) (w : World) : Prop where
  below : Below B W0 w
  btB : B < bt
  b2B : B < b2
  ne : bt ≠ b2
  res0 : ∃ x, w.cell? ⟨B, 0, none⟩ = some x
  res1 : ∃ x, w.cell? ⟨B, 1, none⟩ = some x
  rfree : w.frozen? ⟨B, 0, none⟩ = false ∧ w.frozen? ⟨B, 1, none⟩ = false
  t0 : w.cell? ⟨bt, 0, none⟩ = some r
  t1 : w.cell? ⟨bt, 1, none⟩ = some s
  row : ∀ i, i < n → ∃ x, w.cell? ⟨b2, i, none⟩ = some x
  free : ∀ i, i < n → w.frozen? ⟨b2, i, none⟩ = false

theorem Tab.set {W0 w : World} {B bt b2 n : Nat} {r s : Value} (h : Tab W0 B bt b2 n r s w) (o : Nat) (u : Value) : Tab W0 B bt b2 n r s (w.setCell ⟨b2, o, none⟩ u) := by
  have hne := h.ne
  refine ⟨h.below.setCell (Nat.le_of_lt h.b2B) _, h.btB, h.b2B, h.ne, some_set h.res0, some_set h.res1, by simpa using h.rfree, ?_, ?_, fun i hi => some_set (h.row i hi), fun i hi => by rw [World.frozen?_setCell]; exact h.free i hi⟩
  · rw [set_other (fun e => hne (congrArg Addr.block e).symm)]; exact h.t0
  · rw [set_other (fun e => hne (congrArg Addr.block e).symm)]; exact h.t1
theorem four_blocks (w : World) (a b c d : Obj) : ((((w.alloc a).alloc b).alloc c).alloc d).drew.heap[w.heap.size]? = some a ∧ ((((w.alloc a).alloc b).alloc c).alloc d).drew.heap[w.heap.size + 1]? = some b ∧
    ((((w.alloc a).alloc b).alloc c).alloc d).drew.heap[w.heap.size + 1 + 1]? = some c ∧ ((((w.alloc a).alloc b).alloc c).alloc d).drew.heap[w.heap.size + 1 + 1 + 1]? = some d ∧ Below w.heap.size w ((((w.alloc a).alloc b).alloc c).alloc d).drew := by
  have s1 : (w.alloc a).heap.size = w.heap.size + 1 := by simp
  have s2 : ((w.alloc a).alloc b).heap.size = w.heap.size + 1 + 1 := by simp
  have s3 : (((w.alloc a).alloc b).alloc c).heap.size = w.heap.size + 1 + 1 + 1 := by simp
  refine ⟨?_, ?_, ?_, ?_, ((((Below.refl _ _).alloc (Nat.le_refl _) _).alloc (by omega) _).alloc (by omega) _ |>.alloc (by omega) _).drew⟩
  · show ((((w.alloc a).alloc b).alloc c).alloc d).heap[w.heap.size]? = _
    rw [heap_alloc_old _ _ (by omega), heap_alloc_old _ _ (by omega), heap_alloc_old _ _ (by omega)]
    exact heap_alloc_new w a
  · show ((((w.alloc a).alloc b).alloc c).alloc d).heap[w.heap.size + 1]? = _
    rw [heap_alloc_old _ _ (by omega), heap_alloc_old _ _ (by omega), ← s1]
    exact heap_alloc_new _ b
  · show ((((w.alloc a).alloc b).alloc c).alloc d).heap[w.heap.size + 1 + 1]? = _
    rw [heap_alloc_old _ _ (by omega), ← s2]
    exact heap_alloc_new _ c
  · show ((((w.alloc a).alloc b).alloc c).alloc d).heap[w.heap.size + 1 + 1 + 1]? = _
    rw [← s3]
    exact heap_alloc_new _ d

theorem tab_of {W0 w : World} {B bt b2 n : Nat} {x y r s : Value} {t t' e : TypeId} {row : Array Value} (hb : Below B W0 w) (h1 : B < bt) (h2 : B < b2) (hne : bt ≠ b2)
    (k0 : w.heap[B]? = some (.cells #[x, y] t (0, 0))) (k1 : w.heap[bt]? = some (.cells #[r, s] t' (0, 0))) (k2 : w.heap[b2]? = some (.cells row e (0, 0))) (hs : row.size = n) : Tab W0 B bt b2 n r s w := by
  refine ⟨hb, h1, h2, hne, ⟨x, (cell_of_two k0).1⟩, ⟨y, (cell_of_two k0).2⟩, ⟨by simp [World.frozen?, k0], by simp [World.frozen?, k0]⟩, (cell_of_two k1).1, (cell_of_two k1).2, fun i hi => ⟨row[i], ?_⟩, fun i _ => by simp [World.frozen?, k2]⟩
  simp [World.cell?, k2, hs, hi]


theorem mk101 : (Tryz.prog.info? 101).map (fun i => (i.zero.isSome, decide (i.bytes ≤ 100000))) = some (true, true) := by kernel_rfl

set_option maxHeartbeats 1600000 in
theorem newTable36 (n : Nat) (hn : n ≤ 1000) (w : World) :
    Calls Tryz.prog 36 #[.int .i64 n] w fun e w' => ∃ a b, e = .returned (.agg #[.slice (some a) n n, .slice (some b) n n]) ∧ Below w.heap.size w w' := by
  obtain ⟨cs, hmk1⟩ := make_some Tryz.underlying92 mk101 n hn
  have hmk2 := run_make_row' (P := Tryz.prog) 93 29 (.int .u16 0) 2 Tryz.underlying93 Tryz.info29 rfl .i64 .i64 n (by omega) (by omega)
  go_enter Tryz.func36, Tryz.ntmps36
  go_upto_region 1 with fail
  go_cut [3] (fun s3 wc => ∃ bt b2 a, s3 = .pointer (some ⟨bt, 0, none⟩) ∧ Tab w w.heap.size bt b2 n (.slice (some a) n n) (.slice (some ⟨b2, 0, none⟩) n n) wc)
  case first =>
    go_region
    all_goals
      go_wp2_with fail
      go_meet
      case rel =>
        obtain ⟨k0, k1, k2, k3, kb⟩ := four_blocks w _ _ _ _
        first
          | exact ⟨w.heap.size + 1 + 1 + 1, w.heap.size + 1 + 1, ⟨w.heap.size + 1, 0, none⟩, rfl, tab_of kb (by omega) (by omega) (by omega) k0 k3 k2 (size_madeCells _ _)⟩
          | exact ⟨w.heap.size + 1 + 1 + 1, w.heap.size + 1, ⟨w.heap.size + 1 + 1, 0, none⟩, rfl, tab_of kb (by omega) (by omega) (by omega) k0 k3 k1 (size_madeCells _ _)⟩
          | exact ⟨w.heap.size + 1 + 1, w.heap.size + 1 + 1 + 1, ⟨w.heap.size + 1, 0, none⟩, rfl, tab_of kb (by omega) (by omega) (by omega) k0 k2 k3 (size_madeCells _ _)⟩
          | exact ⟨w.heap.size + 1 + 1, w.heap.size + 1, ⟨w.heap.size + 1 + 1 + 1, 0, none⟩, rfl, tab_of kb (by omega) (by omega) (by omega) k0 k2 k1 (size_madeCells _ _)⟩
          | exact ⟨w.heap.size + 1, w.heap.size + 1 + 1 + 1, ⟨w.heap.size + 1 + 1, 0, none⟩, rfl, tab_of kb (by omega) (by omega) (by omega) k0 k1 k3 (size_madeCells _ _)⟩
          | exact ⟨w.heap.size + 1, w.heap.size + 1 + 1, ⟨w.heap.size + 1 + 1 + 1, 0, none⟩, rfl, tab_of kb (by omega) (by omega) (by omega) k0 k1 k2 (size_madeCells _ _)⟩
  case rest =>
    obtain ⟨bt, b2, a, rfl, htab⟩ := hcut
    have HT := hideIt htab
    have c1 := htab.t1
    clear htab
    go_wp2
    go_loopw [13] (fun i wr => ∃ k : Nat, k ≤ n ∧ i = .int .i64 k ∧ Tab w w.heap.size bt b2 n (.slice (some a) n n) (.slice (some ⟨b2, 0, none⟩) n n) wr) (fun i _ => n - (intOf i).toNat)
    case atStart => exact ⟨0, by omega, rfl, HT.out⟩
    case round =>
      obtain ⟨k, hk, rfl, htr⟩ := hrel
      have HR := hideIt htr
      have d0 := htr.t0
      have d1 := htr.t1
      by_cases hlt : k < n
      · obtain ⟨x, d2⟩ := htr.row k hlt
        have d3 := htr.free k hlt
        clear htr
        go_wp2
        go_roundw
        case rel => exact ⟨k + 1, by omega, by go_num, HR.out.set _ _⟩
        case measure => simp [intOf]; omega
      · obtain ⟨x0, r0⟩ := htr.res0
        obtain ⟨x1, r1⟩ := htr.res1
        obtain ⟨f0, f1⟩ := htr.rfree
        clear htr
        go_wp2
        exact bodyPost_ret (v := .agg #[.slice (some a) n n, .slice (some ⟨b2, 0, none⟩) n n]) (by simp [results, Tryz.results36, go_sem, r0, r1]) rfl ⟨a, ⟨b2, 0, none⟩, rfl, (HR.out.below.setCell (Nat.le_refl _) _).setCell (Nat.le_refl _) _⟩

theorem mk109 : (Tryz.prog.info? 109).map (fun i => (i.zero.isSome, decide (i.bytes ≤ 100000))) = some (true, true) := by kernel_rfl

set_option maxHeartbeats 1600000 in
theorem newTable37 (n : Nat) (hn : n ≤ 1000) (w : World) :
    Calls Tryz.prog 37 #[.int .i64 n] w fun e w' => ∃ a b, e = .returned (.agg #[.slice (some a) n n, .slice (some b) n n]) ∧ Below w.heap.size w w' := by
  obtain ⟨cs, hmk1⟩ := make_some Tryz.underlying102 mk109 n hn
  have hmk2 := run_make_row' (P := Tryz.prog) 93 29 (.int .u16 0) 2 Tryz.underlying93 Tryz.info29 rfl .i64 .i64 n (by omega) (by omega)
  go_enter Tryz.func37, Tryz.ntmps37
  go_upto_region 1 with fail
  go_cut [3] (fun s3 wc => ∃ bt b2 a, s3 = .pointer (some ⟨bt, 0, none⟩) ∧ Tab w w.heap.size bt b2 n (.slice (some a) n n) (.slice (some ⟨b2, 0, none⟩) n n) wc)
  case first =>
    go_region
    all_goals
      go_wp2_with fail
      go_meet
      case rel =>
        obtain ⟨k0, k1, k2, k3, kb⟩ := four_blocks w _ _ _ _
        first
          | exact ⟨w.heap.size + 1 + 1 + 1, w.heap.size + 1 + 1, ⟨w.heap.size + 1, 0, none⟩, rfl, tab_of kb (by omega) (by omega) (by omega) k0 k3 k2 (size_madeCells _ _)⟩
          | exact ⟨w.heap.size + 1 + 1 + 1, w.heap.size + 1, ⟨w.heap.size + 1 + 1, 0, none⟩, rfl, tab_of kb (by omega) (by omega) (by omega) k0 k3 k1 (size_madeCells _ _)⟩
          | exact ⟨w.heap.size + 1 + 1, w.heap.size + 1 + 1 + 1, ⟨w.heap.size + 1, 0, none⟩, rfl, tab_of kb (by omega) (by omega) (by omega) k0 k2 k3 (size_madeCells _ _)⟩
          | exact ⟨w.heap.size + 1 + 1, w.heap.size + 1, ⟨w.heap.size + 1 + 1 + 1, 0, none⟩, rfl, tab_of kb (by omega) (by omega) (by omega) k0 k2 k1 (size_madeCells _ _)⟩
          | exact ⟨w.heap.size + 1, w.heap.size + 1 + 1 + 1, ⟨w.heap.size + 1 + 1, 0, none⟩, rfl, tab_of kb (by omega) (by omega) (by omega) k0 k1 k3 (size_madeCells _ _)⟩
          | exact ⟨w.heap.size + 1, w.heap.size + 1 + 1, ⟨w.heap.size + 1 + 1 + 1, 0, none⟩, rfl, tab_of kb (by omega) (by omega) (by omega) k0 k1 k2 (size_madeCells _ _)⟩
  case rest =>
    obtain ⟨bt, b2, a, rfl, htab⟩ := hcut
    have HT := hideIt htab
    have c1 := htab.t1
    clear htab
    go_wp2
    go_loopw [13] (fun i wr => ∃ k : Nat, k ≤ n ∧ i = .int .i64 k ∧ Tab w w.heap.size bt b2 n (.slice (some a) n n) (.slice (some ⟨b2, 0, none⟩) n n) wr) (fun i _ => n - (intOf i).toNat)
    case atStart => exact ⟨0, by omega, rfl, HT.out⟩
    case round =>
      obtain ⟨k, hk, rfl, htr⟩ := hrel
      have HR := hideIt htr
      have d0 := htr.t0
      have d1 := htr.t1
      by_cases hlt : k < n
      · obtain ⟨x, d2⟩ := htr.row k hlt
        have d3 := htr.free k hlt
        clear htr
        go_wp2
        go_roundw
        case rel => exact ⟨k + 1, by omega, by go_num, HR.out.set _ _⟩
        case measure => simp [intOf]; omega
      · obtain ⟨x0, r0⟩ := htr.res0
        obtain ⟨x1, r1⟩ := htr.res1
        obtain ⟨f0, f1⟩ := htr.rfree
        clear htr
        go_wp2
        exact bodyPost_ret (v := .agg #[.slice (some a) n n, .slice (some ⟨b2, 0, none⟩) n n]) (by simp [results, Tryz.results37, go_sem, r0, r1]) rfl ⟨a, ⟨b2, 0, none⟩, rfl, (HR.out.below.setCell (Nat.le_refl _) _).setCell (Nat.le_refl _) _⟩

theorem mk115 : (Tryz.prog.info? 115).map (fun i => (i.zero.isSome, decide (i.bytes ≤ 100000))) = some (true, true) := by kernel_rfl

set_option maxHeartbeats 1600000 in
theorem newTable38 (n : Nat) (hn : n ≤ 1000) (w : World) :
    Calls Tryz.prog 38 #[.int .i64 n] w fun e w' => ∃ a b, e = .returned (.agg #[.slice (some a) n n, .slice (some b) n n]) ∧ Below w.heap.size w w' := by
  obtain ⟨cs, hmk1⟩ := make_some Tryz.underlying110 mk115 n hn
  have hmk2 := run_make_row' (P := Tryz.prog) 93 29 (.int .u16 0) 2 Tryz.underlying93 Tryz.info29 rfl .i64 .i64 n (by omega) (by omega)
  go_enter Tryz.func38, Tryz.ntmps38
  go_upto_region 1 with fail
  go_cut [3] (fun s3 wc => ∃ bt b2 a, s3 = .pointer (some ⟨bt, 0, none⟩) ∧ Tab w w.heap.size bt b2 n (.slice (some a) n n) (.slice (some ⟨b2, 0, none⟩) n n) wc)
  case first =>
    go_region
    all_goals
      go_wp2_with fail
      go_meet
      case rel =>
        obtain ⟨k0, k1, k2, k3, kb⟩ := four_blocks w _ _ _ _
        first
          | exact ⟨w.heap.size + 1 + 1 + 1, w.heap.size + 1 + 1, ⟨w.heap.size + 1, 0, none⟩, rfl, tab_of kb (by omega) (by omega) (by omega) k0 k3 k2 (size_madeCells _ _)⟩
          | exact ⟨w.heap.size + 1 + 1 + 1, w.heap.size + 1, ⟨w.heap.size + 1 + 1, 0, none⟩, rfl, tab_of kb (by omega) (by omega) (by omega) k0 k3 k1 (size_madeCells _ _)⟩
          | exact ⟨w.heap.size + 1 + 1, w.heap.size + 1 + 1 + 1, ⟨w.heap.size + 1, 0, none⟩, rfl, tab_of kb (by omega) (by omega) (by omega) k0 k2 k3 (size_madeCells _ _)⟩
          | exact ⟨w.heap.size + 1 + 1, w.heap.size + 1, ⟨w.heap.size + 1 + 1 + 1, 0, none⟩, rfl, tab_of kb (by omega) (by omega) (by omega) k0 k2 k1 (size_madeCells _ _)⟩
          | exact ⟨w.heap.size + 1, w.heap.size + 1 + 1 + 1, ⟨w.heap.size + 1 + 1, 0, none⟩, rfl, tab_of kb (by omega) (by omega) (by omega) k0 k1 k3 (size_madeCells _ _)⟩
          | exact ⟨w.heap.size + 1, w.heap.size + 1 + 1, ⟨w.heap.size + 1 + 1 + 1, 0, none⟩, rfl, tab_of kb (by omega) (by omega) (by omega) k0 k1 k2 (size_madeCells _ _)⟩
  case rest =>
    obtain ⟨bt, b2, a, rfl, htab⟩ := hcut
    have HT := hideIt htab
    have c1 := htab.t1
    clear htab
    go_wp2
    go_loopw [13] (fun i wr => ∃ k : Nat, k ≤ n ∧ i = .int .i64 k ∧ Tab w w.heap.size bt b2 n (.slice (some a) n n) (.slice (some ⟨b2, 0, none⟩) n n) wr) (fun i _ => n - (intOf i).toNat)
    case atStart => exact ⟨0, by omega, rfl, HT.out⟩
    case round =>
      obtain ⟨k, hk, rfl, htr⟩ := hrel
      have HR := hideIt htr
      have d0 := htr.t0
      have d1 := htr.t1
      by_cases hlt : k < n
      · obtain ⟨x, d2⟩ := htr.row k hlt
        have d3 := htr.free k hlt
        clear htr
        go_wp2
        go_roundw
        case rel => exact ⟨k + 1, by omega, by go_num, HR.out.set _ _⟩
        case measure => simp [intOf]; omega
      · obtain ⟨x0, r0⟩ := htr.res0
        obtain ⟨x1, r1⟩ := htr.res1
        obtain ⟨f0, f1⟩ := htr.rfree
        clear htr
        go_wp2
        exact bodyPost_ret (v := .agg #[.slice (some a) n n, .slice (some ⟨b2, 0, none⟩) n n]) (by simp [results, Tryz.results38, go_sem, r0, r1]) rfl ⟨a, ⟨b2, 0, none⟩, rfl, (HR.out.below.setCell (Nat.le_refl _) _).setCell (Nat.le_refl _) _⟩

theorem mk121 : (Tryz.prog.info? 121).map (fun i => (i.zero.isSome, decide (i.bytes ≤ 100000))) = some (true, true) := by kernel_rfl

set_option maxHeartbeats 1600000 in
theorem newTable39 (n : Nat) (hn : n ≤ 1000) (w : World) :
    Calls Tryz.prog 39 #[.int .i64 n] w fun e w' => ∃ a b, e = .returned (.agg #[.slice (some a) n n, .slice (some b) n n]) ∧ Below w.heap.size w w' := by
  obtain ⟨cs, hmk1⟩ := make_some Tryz.underlying116 mk121 n hn
  have hmk2 := run_make_row' (P := Tryz.prog) 93 29 (.int .u16 0) 2 Tryz.underlying93 Tryz.info29 rfl .i64 .i64 n (by omega) (by omega)
  go_enter Tryz.func39, Tryz.ntmps39
  go_upto_region 1 with fail
  go_cut [3] (fun s3 wc => ∃ bt b2 a, s3 = .pointer (some ⟨bt, 0, none⟩) ∧ Tab w w.heap.size bt b2 n (.slice (some a) n n) (.slice (some ⟨b2, 0, none⟩) n n) wc)
  case first =>
    go_region
    all_goals
      go_wp2_with fail
      go_meet
      case rel =>
        obtain ⟨k0, k1, k2, k3, kb⟩ := four_blocks w _ _ _ _
        first
          | exact ⟨w.heap.size + 1 + 1 + 1, w.heap.size + 1 + 1, ⟨w.heap.size + 1, 0, none⟩, rfl, tab_of kb (by omega) (by omega) (by omega) k0 k3 k2 (size_madeCells _ _)⟩
          | exact ⟨w.heap.size + 1 + 1 + 1, w.heap.size + 1, ⟨w.heap.size + 1 + 1, 0, none⟩, rfl, tab_of kb (by omega) (by omega) (by omega) k0 k3 k1 (size_madeCells _ _)⟩
          | exact ⟨w.heap.size + 1 + 1, w.heap.size + 1 + 1 + 1, ⟨w.heap.size + 1, 0, none⟩, rfl, tab_of kb (by omega) (by omega) (by omega) k0 k2 k3 (size_madeCells _ _)⟩
          | exact ⟨w.heap.size + 1 + 1, w.heap.size + 1, ⟨w.heap.size + 1 + 1 + 1, 0, none⟩, rfl, tab_of kb (by omega) (by omega) (by omega) k0 k2 k1 (size_madeCells _ _)⟩
          | exact ⟨w.heap.size + 1, w.heap.size + 1 + 1 + 1, ⟨w.heap.size + 1 + 1, 0, none⟩, rfl, tab_of kb (by omega) (by omega) (by omega) k0 k1 k3 (size_madeCells _ _)⟩
          | exact ⟨w.heap.size + 1, w.heap.size + 1 + 1, ⟨w.heap.size + 1 + 1 + 1, 0, none⟩, rfl, tab_of kb (by omega) (by omega) (by omega) k0 k1 k2 (size_madeCells _ _)⟩
  case rest =>
    obtain ⟨bt, b2, a, rfl, htab⟩ := hcut
    have HT := hideIt htab
    have c1 := htab.t1
    clear htab
    go_wp2
    go_loopw [13] (fun i wr => ∃ k : Nat, k ≤ n ∧ i = .int .i64 k ∧ Tab w w.heap.size bt b2 n (.slice (some a) n n) (.slice (some ⟨b2, 0, none⟩) n n) wr) (fun i _ => n - (intOf i).toNat)
    case atStart => exact ⟨0, by omega, rfl, HT.out⟩
    case round =>
      obtain ⟨k, hk, rfl, htr⟩ := hrel
      have HR := hideIt htr
      have d0 := htr.t0
      have d1 := htr.t1
      by_cases hlt : k < n
      · obtain ⟨x, d2⟩ := htr.row k hlt
        have d3 := htr.free k hlt
        clear htr
        go_wp2
        go_roundw
        case rel => exact ⟨k + 1, by omega, by go_num, HR.out.set _ _⟩
        case measure => simp [intOf]; omega
      · obtain ⟨x0, r0⟩ := htr.res0
        obtain ⟨x1, r1⟩ := htr.res1
        obtain ⟨f0, f1⟩ := htr.rfree
        clear htr
        go_wp2
        exact bodyPost_ret (v := .agg #[.slice (some a) n n, .slice (some ⟨b2, 0, none⟩) n n]) (by simp [results, Tryz.results39, go_sem, r0, r1]) rfl ⟨a, ⟨b2, 0, none⟩, rfl, (HR.out.below.setCell (Nat.le_refl _) _).setCell (Nat.le_refl _) _⟩

theorem mk127 : (Tryz.prog.info? 127).map (fun i => (i.zero.isSome, decide (i.bytes ≤ 100000))) = some (true, true) := by kernel_rfl

set_option maxHeartbeats 1600000 in
theorem newTable40 (n : Nat) (hn : n ≤ 1000) (w : World) :
    Calls Tryz.prog 40 #[.int .i64 n] w fun e w' => ∃ a b, e = .returned (.agg #[.slice (some a) n n, .slice (some b) n n]) ∧ Below w.heap.size w w' := by
  obtain ⟨cs, hmk1⟩ := make_some Tryz.underlying122 mk127 n hn
  have hmk2 := run_make_row' (P := Tryz.prog) 93 29 (.int .u16 0) 2 Tryz.underlying93 Tryz.info29 rfl .i64 .i64 n (by omega) (by omega)
  go_enter Tryz.func40, Tryz.ntmps40
  go_upto_region 1 with fail
  go_cut [3] (fun s3 wc => ∃ bt b2 a, s3 = .pointer (some ⟨bt, 0, none⟩) ∧ Tab w w.heap.size bt b2 n (.slice (some a) n n) (.slice (some ⟨b2, 0, none⟩) n n) wc)
  case first =>
    go_region
    all_goals
      go_wp2_with fail
      go_meet
      case rel =>
        obtain ⟨k0, k1, k2, k3, kb⟩ := four_blocks w _ _ _ _
        first
          | exact ⟨w.heap.size + 1 + 1 + 1, w.heap.size + 1 + 1, ⟨w.heap.size + 1, 0, none⟩, rfl, tab_of kb (by omega) (by omega) (by omega) k0 k3 k2 (size_madeCells _ _)⟩
          | exact ⟨w.heap.size + 1 + 1 + 1, w.heap.size + 1, ⟨w.heap.size + 1 + 1, 0, none⟩, rfl, tab_of kb (by omega) (by omega) (by omega) k0 k3 k1 (size_madeCells _ _)⟩
          | exact ⟨w.heap.size + 1 + 1, w.heap.size + 1 + 1 + 1, ⟨w.heap.size + 1, 0, none⟩, rfl, tab_of kb (by omega) (by omega) (by omega) k0 k2 k3 (size_madeCells _ _)⟩
          | exact ⟨w.heap.size + 1 + 1, w.heap.size + 1, ⟨w.heap.size + 1 + 1 + 1, 0, none⟩, rfl, tab_of kb (by omega) (by omega) (by omega) k0 k2 k1 (size_madeCells _ _)⟩
          | exact ⟨w.heap.size + 1, w.heap.size + 1 + 1 + 1, ⟨w.heap.size + 1 + 1, 0, none⟩, rfl, tab_of kb (by omega) (by omega) (by omega) k0 k1 k3 (size_madeCells _ _)⟩
          | exact ⟨w.heap.size + 1, w.heap.size + 1 + 1, ⟨w.heap.size + 1 + 1 + 1, 0, none⟩, rfl, tab_of kb (by omega) (by omega) (by omega) k0 k1 k2 (size_madeCells _ _)⟩
  case rest =>
    obtain ⟨bt, b2, a, rfl, htab⟩ := hcut
    have HT := hideIt htab
    have c1 := htab.t1
    clear htab
    go_wp2
    go_loopw [13] (fun i wr => ∃ k : Nat, k ≤ n ∧ i = .int .i64 k ∧ Tab w w.heap.size bt b2 n (.slice (some a) n n) (.slice (some ⟨b2, 0, none⟩) n n) wr) (fun i _ => n - (intOf i).toNat)
    case atStart => exact ⟨0, by omega, rfl, HT.out⟩
    case round =>
      obtain ⟨k, hk, rfl, htr⟩ := hrel
      have HR := hideIt htr
      have d0 := htr.t0
      have d1 := htr.t1
      by_cases hlt : k < n
      · obtain ⟨x, d2⟩ := htr.row k hlt
        have d3 := htr.free k hlt
        clear htr
        go_wp2
        go_roundw
        case rel => exact ⟨k + 1, by omega, by go_num, HR.out.set _ _⟩
        case measure => simp [intOf]; omega
      · obtain ⟨x0, r0⟩ := htr.res0
        obtain ⟨x1, r1⟩ := htr.res1
        obtain ⟨f0, f1⟩ := htr.rfree
        clear htr
        go_wp2
        exact bodyPost_ret (v := .agg #[.slice (some a) n n, .slice (some ⟨b2, 0, none⟩) n n]) (by simp [results, Tryz.results40, go_sem, r0, r1]) rfl ⟨a, ⟨b2, 0, none⟩, rfl, (HR.out.below.setCell (Nat.le_refl _) _).setCell (Nat.le_refl _) _⟩

theorem mk133 : (Tryz.prog.info? 133).map (fun i => (i.zero.isSome, decide (i.bytes ≤ 100000))) = some (true, true) := by kernel_rfl

set_option maxHeartbeats 1600000 in
theorem newTable41 (n : Nat) (hn : n ≤ 1000) (w : World) :
    Calls Tryz.prog 41 #[.int .i64 n] w fun e w' => ∃ a b, e = .returned (.agg #[.slice (some a) n n, .slice (some b) n n]) ∧ Below w.heap.size w w' := by
  obtain ⟨cs, hmk1⟩ := make_some Tryz.underlying128 mk133 n hn
  have hmk2 := run_make_row' (P := Tryz.prog) 93 29 (.int .u16 0) 2 Tryz.underlying93 Tryz.info29 rfl .i64 .i64 n (by omega) (by omega)
  go_enter Tryz.func41, Tryz.ntmps41
  go_upto_region 1 with fail
  go_cut [3] (fun s3 wc => ∃ bt b2 a, s3 = .pointer (some ⟨bt, 0, none⟩) ∧ Tab w w.heap.size bt b2 n (.slice (some a) n n) (.slice (some ⟨b2, 0, none⟩) n n) wc)
  case first =>
    go_region
    all_goals
      go_wp2_with fail
      go_meet
      case rel =>
        obtain ⟨k0, k1, k2, k3, kb⟩ := four_blocks w _ _ _ _
        first
          | exact ⟨w.heap.size + 1 + 1 + 1, w.heap.size + 1 + 1, ⟨w.heap.size + 1, 0, none⟩, rfl, tab_of kb (by omega) (by omega) (by omega) k0 k3 k2 (size_madeCells _ _)⟩
          | exact ⟨w.heap.size + 1 + 1 + 1, w.heap.size + 1, ⟨w.heap.size + 1 + 1, 0, none⟩, rfl, tab_of kb (by omega) (by omega) (by omega) k0 k3 k1 (size_madeCells _ _)⟩
          | exact ⟨w.heap.size + 1 + 1, w.heap.size + 1 + 1 + 1, ⟨w.heap.size + 1, 0, none⟩, rfl, tab_of kb (by omega) (by omega) (by omega) k0 k2 k3 (size_madeCells _ _)⟩
          | exact ⟨w.heap.size + 1 + 1, w.heap.size + 1, ⟨w.heap.size + 1 + 1 + 1, 0, none⟩, rfl, tab_of kb (by omega) (by omega) (by omega) k0 k2 k1 (size_madeCells _ _)⟩
          | exact ⟨w.heap.size + 1, w.heap.size + 1 + 1 + 1, ⟨w.heap.size + 1 + 1, 0, none⟩, rfl, tab_of kb (by omega) (by omega) (by omega) k0 k1 k3 (size_madeCells _ _)⟩
          | exact ⟨w.heap.size + 1, w.heap.size + 1 + 1, ⟨w.heap.size + 1 + 1 + 1, 0, none⟩, rfl, tab_of kb (by omega) (by omega) (by omega) k0 k1 k2 (size_madeCells _ _)⟩
  case rest =>
    obtain ⟨bt, b2, a, rfl, htab⟩ := hcut
    have HT := hideIt htab
    have c1 := htab.t1
    clear htab
    go_wp2
    go_loopw [13] (fun i wr => ∃ k : Nat, k ≤ n ∧ i = .int .i64 k ∧ Tab w w.heap.size bt b2 n (.slice (some a) n n) (.slice (some ⟨b2, 0, none⟩) n n) wr) (fun i _ => n - (intOf i).toNat)
    case atStart => exact ⟨0, by omega, rfl, HT.out⟩
    case round =>
      obtain ⟨k, hk, rfl, htr⟩ := hrel
      have HR := hideIt htr
      have d0 := htr.t0
      have d1 := htr.t1
      by_cases hlt : k < n
      · obtain ⟨x, d2⟩ := htr.row k hlt
        have d3 := htr.free k hlt
        clear htr
        go_wp2
        go_roundw
        case rel => exact ⟨k + 1, by omega, by go_num, HR.out.set _ _⟩
        case measure => simp [intOf]; omega
      · obtain ⟨x0, r0⟩ := htr.res0
        obtain ⟨x1, r1⟩ := htr.res1
        obtain ⟨f0, f1⟩ := htr.rfree
        clear htr
        go_wp2
        exact bodyPost_ret (v := .agg #[.slice (some a) n n, .slice (some ⟨b2, 0, none⟩) n n]) (by simp [results, Tryz.results41, go_sem, r0, r1]) rfl ⟨a, ⟨b2, 0, none⟩, rfl, (HR.out.below.setCell (Nat.le_refl _) _).setCell (Nat.le_refl _) _⟩
end Go.Proofs.Qxb6500847aGreatDoor.FloorA
