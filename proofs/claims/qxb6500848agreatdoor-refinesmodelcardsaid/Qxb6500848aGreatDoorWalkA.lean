/-
  The walks of the small functions.
-/
import Derived.Test.Qxb6500848aGreatDoorMem
import Derived.WalkSpells
import Derived.WalkLawsBesides
import Derived.Deep.QuietTactic
import Derived.BigQuiet
import Derived.WalkSmall
import Derived.RowKit
namespace Go.Proofs.Qxb6500848aGreatDoor
open Go.RowKit Pl
set_option maxRecDepth 100000

theorem heap_new (w : World) (o : Obj) : (w.alloc o).heap[w.heap.size]? = some o := Array.getElem?_push_size
theorem hideIt {p : Prop} (h : p) : Hid p := h
theorem ret_int {k : IntKind} {a b : Int} (h : a = b) : Ending.returned (.int k a) = .returned (.int k b) := by rw [h]
theorem ret_bool {a b : Bool} (h : a = b) : Ending.returned (.bool a) = .returned (.bool b) := by rw [h]

theorem tmod_neg {i n : Int} (hn : 0 < n) (h : i.tmod n < 0) : i.tmod n + n = i % n := by
  have h1 := Int.tmod_add_mul_tdiv i n
  have h2 : -n < i.tmod n := by
    have := Int.lt_tmod_of_pos i hn
    omega
  have : (i.tmod n + n) % n = i % n := by
    rw [Int.add_emod_right]
    conv => rhs; rw [← h1]
    rw [Int.add_mul_emod_self_left]
  rw [← this, Int.emod_eq_of_lt (by omega) (by omega)]
theorem tmod_pos {i n : Int} (hn : 0 < n) (h : 0 ≤ i.tmod n) : i.tmod n = i % n := by
  have h1 := Int.tmod_add_mul_tdiv i n
  have h2 : i.tmod n < n := Int.tmod_lt_of_pos i hn
  have : (i.tmod n) % n = i % n := by
    conv => rhs; rw [← h1]
    rw [Int.add_mul_emod_self_left]
  rw [← this, Int.emod_eq_of_lt h h2]

set_option maxHeartbeats 400000 in
theorem fold_walk (i n : Int) (hn : 0 < n) (hn2 : n ≤ 4611686018427387904) (w : World) :
    Calls Tryz.prog 46 #[.int .i64 i, .int .i64 n] w fun e w' => e = .returned (.int .i64 (i % n)) ∧ w' = w := by
  have hne : n ≠ 0 := by omega
  have b1 : -n < i.tmod n := Int.lt_tmod_of_pos i hn
  have b2 : i.tmod n < n := Int.tmod_lt_of_pos i hn
  have hw : wrap64 (i.tmod n) = i.tmod n := by unfold wrap64; omega
  by_cases h : i.tmod n < 0
  · have HE : Hid (i.tmod n + n = i % n) := tmod_neg hn h
    have hw2 : wrap64 (i.tmod n + n) = i.tmod n + n := by unfold wrap64; omega
    go_enter Tryz.func46, Tryz.ntmps46
    go_wp2
    go_ret
    exact ⟨ret_int HE.out, rfl⟩
  · have HE : Hid (i.tmod n = i % n) := tmod_pos hn (by omega)
    have h' : 0 ≤ i.tmod n := by omega
    go_enter Tryz.func46, Tryz.ntmps46
    go_wp2
    go_ret
    exact ⟨ret_int HE.out, rfl⟩

set_option maxHeartbeats 400000 in
theorem builds_walk (k : Int) (w : World) :
    Calls Tryz.prog 63 #[.int .i64 k] w fun e w' => e = .returned (.bool (decide (0 ≤ k ∧ k ≤ 14))) ∧ w' = w := by
  by_cases h : 0 ≤ k <;> by_cases h2 : k ≤ 14 <;>
  · go_enter Tryz.func63, Tryz.ntmps63
    go_wp2
    go_ret
    exact ⟨ret_bool (by simp [h, h2]), rfl⟩

set_option maxHeartbeats 400000 in
theorem asks_walk (k : Int) (w : World) :
    Calls Tryz.prog 66 #[.int .i64 k] w fun e w' => e = .returned (.bool (decide (15 ≤ k ∧ k ≤ 20))) ∧ w' = w := by
  by_cases h : 15 ≤ k <;> by_cases h2 : k ≤ 20 <;>
  · go_enter Tryz.func66, Tryz.ntmps66
    go_wp2
    go_ret
    exact ⟨ret_bool (by simp [h, h2]), rfl⟩

set_option maxHeartbeats 400000 in
theorem inAlphabet_walk (k : Int) (w : World) :
    Calls Tryz.prog 79 #[.int .i64 k] w fun e w' => e = .returned (.bool (decide (0 ≤ k ∧ k ≤ 196607))) ∧ w' = w := by
  by_cases h : 0 ≤ k <;> by_cases h2 : k ≤ 196607 <;>
  · go_enter Tryz.func79, Tryz.ntmps79
    go_wp2
    go_ret
    exact ⟨ret_bool (by simp [h, h2]), rfl⟩

set_option maxHeartbeats 400000 in
theorem len_walk {X : Nat → Prop} {ab nb : Nat} {lim : Int} {A : List Nd} (w : World) (h : Ar X w ab nb lim A) :
    Calls Tryz.prog 68 #[.pointer (some ⟨ab, 0, none⟩)] w fun e w' => e = .returned (.int .i64 A.length) ∧ w' = w := by
  obtain ⟨cap, h0, _, _⟩ := h.node
  go_enter Tryz.func68, Tryz.ntmps68
  go_wp2
  go_ret
  exact ⟨rfl, rfl⟩

set_option maxHeartbeats 400000 in
theorem node_walk {X : Nat → Prop} {ab nb : Nat} {lim : Int} {A : List Nd} (w : World) (h : Ar X w ab nb lim A) (x : Int) (hx : Valid A x) {sv kv : Value} (hn : NodeCells X w nb x (nodeAt A x) sv kv) :
    Calls Tryz.prog 82 #[.pointer (some ⟨ab, 0, none⟩), .int .i64 x] w fun e w' =>
      e = .returned (.agg #[.int .i64 (nodeAt A x).kind, sv, kv, .int .i64 (nodeAt A x).lo, .int .i64 (nodeAt A x).hi]) ∧ Below w.heap.size w w' := by
  obtain ⟨cap, h0, _, _⟩ := h.node
  obtain ⟨c0, c1, c2, c3, c4, ⟨k1, k2, rfl, _⟩, ⟨s1, s2, rfl, _⟩⟩ := hn
  have hab : ab < w.heap.size := cell_lt h0
  have hnb : nb < w.heap.size := cell_lt c0
  have hx0 := hx.1
  have hx1 : x < (A.length : Int) := by have := hx.2; omega
  generalize nodeAt A x = nd at *
  go_enter Tryz.func82, Tryz.ntmps82
  go_wp2
  refine bodyPost_ret (v := .agg #[.int .i64 nd.kind, .slice s1 nd.bits.length s2, .slice k1 nd.kids.length k2, .int .i64 nd.lo, .int .i64 nd.hi]) ?_ rfl ⟨rfl, (Below.refl _ _).alloc (Nat.le_refl _) _⟩
  exact results_cell_row (by exact Tryz.results82) _ _ w.heap.size _ _ _ _ (by rfl) (heap_new _ _) Tryz.underlying110 rfl (by kernel_rfl)
end Go.Proofs.Qxb6500848aGreatDoor
