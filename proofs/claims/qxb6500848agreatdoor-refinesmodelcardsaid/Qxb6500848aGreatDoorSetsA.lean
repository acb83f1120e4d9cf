/-
  Classes in memory: Whole, Range, split, Min.
-/
import Derived.Test.Qxb6500848aGreatDoorMakers
import Derived.Test.Qxb6500848aGreatDoorComp56
namespace Go.Proofs.Qxb6500848aGreatDoor
open Go.RowKit Pl
set_option maxRecDepth 100000

/-- Block b is a row of words. -/
def WB (w : World) (b : Nat) (l : List Nat) : Prop := w.heap[b]? = some (.cells (l.map encW).toArray 120 (0, 0))

theorem WB.cell {w : World} {b : Nat} {l : List Nat} (h : WB w b l) {k : Nat} (hk : k < l.length) : w.cell? ⟨b, k, none⟩ = some (.int .u64 l[k]) ∧ w.frozen? ⟨b, k, none⟩ = false := by
  constructor
  · rw [box_cell h]; simp [hk]
  · simp [World.frozen?, show w.heap[b]? = _ from h]
theorem WB.set {w : World} {b : Nat} {l : List Nat} (h : WB w b l) (k v : Nat) : WB (w.setCell ⟨b, k, none⟩ (.int .u64 v)) b (l.set k v) := by
  unfold WB at *
  simp only [World.setCell, Array.getElem?_modify, h]
  simp [List.map_set]
theorem WB.other {w : World} {b c : Nat} {l : List Nat} (h : WB w b l) (hc : b ≠ c) (k : Nat) (v : Value) : WB (w.setCell ⟨c, k, none⟩ v) b l := (Deep.blk_setCell_other w ⟨c, k, none⟩ v b hc).trans h
theorem WB.words {X : Nat → Prop} {w : World} {b : Nat} {l : List Nat} (h : WB w b l) (hX : ¬ X b) (hl : l.length ≤ maxLen) : Words X w (.slice (some ⟨b, 0, none⟩) l.length l.length) l :=
  ⟨_, _, rfl, Nat.le_refl _, hl, fun _ => ⟨b, 0, rfl, hX, fun j hj => by rw [Nat.zero_add]; exact (h.cell hj).1⟩⟩
theorem WB.new (w : World) (n : Nat) : WB (w.alloc (.cells (madeCells #[.int .u64 0] n) 120)) w.heap.size (List.replicate n 0) := by
  unfold WB
  rw [heap_new]
  congr 2
  apply Array.ext_getElem?
  intro j
  by_cases h : j < n
  · rw [made_get _ _ _ h]; simp [h]
  · rw [Array.getElem?_eq_none (by simp [madeCells]; omega), Array.getElem?_eq_none (by simp; omega)]

/-- A class: 3072 words. -/
def Cl (l : List Nat) : Prop := l.length = 3072 ∧ ∀ b ∈ l, b < 2 ^ 64
theorem Cl.set {l : List Nat} (h : Cl l) {k v : Nat} (hv : v < 2 ^ 64) : Cl (l.set k v) :=
  ⟨by simp [h.1], fun b hb => (List.mem_or_eq_of_mem_set hb).elim (h.2 b) (fun e => e ▸ hv)⟩
theorem cl_zero : Cl (List.replicate 3072 0) := ⟨by simp, fun b hb => by rw [List.eq_of_mem_replicate hb]; decide⟩

theorem info_u64 : (Tryz.prog.info? 120).map (fun i => (i.zero, i.size, i.bytes)) = some (some (.int .u64 0), 1, 8) := by kernel_rfl

theorem bits_nat (op : BinOp) (a b : Int) : ∃ v : Nat, v < 2 ^ 64 ∧ Go.bits op .u64 a b = v := by
  have : ∀ t : Int, ∃ v : Nat, v < 2 ^ 64 ∧ IntKind.u64.wrap t = v := fun t => by
    refine ⟨(t % 2 ^ 64).toNat, by omega, ?_⟩
    simp [IntKind.wrap, IntKind.bits, IntKind.signed]; omega
  unfold Go.bits
  split <;> exact this _

/-- A new class, and what lay there lies there still. -/
def NewCl (P : List Nat → Prop) (w : World) (e : Ending) (w' : World) : Prop := ∃ b l, e = .returned (.slice (some ⟨b, 0, none⟩) 3072 3072) ∧ WB w' b l ∧ Cl l ∧ P l ∧ w.heap.size ≤ b ∧ Below w.heap.size w w'

set_option maxHeartbeats 1000000 in
theorem whole_walk (w : World) : Calls Tryz.prog 69 #[] w (NewCl (fun l => l = List.replicate 3072 18446744073709551615) w) := by
  have hm1 := run_make_row' (P := Tryz.prog) 53 120 (.int .u64 0) 8 Tryz.underlying53 info_u64 rfl .i64 .i64 3072 (by omega) (by omega)
  rw [show ((3072 : Nat) : Int) = 3072 from rfl] at hm1
  go_enter Tryz.func69, Tryz.ntmps69
  go_wp2
  go_loopw [6] (fun i wr => ∃ k : Nat, k ≤ 3072 ∧ i = .int .i64 k ∧ WB wr w.heap.size (List.replicate k 18446744073709551615 ++ List.replicate (3072 - k) 0) ∧ Below w.heap.size w wr) (fun i _ => 3072 - (intOf i).toNat)
  case atStart => exact ⟨0, by omega, rfl, by simpa using WB.new w 3072, alloc_below _⟩
  case round =>
    obtain ⟨k, hk, rfl, hW, hb⟩ := hrel
    by_cases hlt : k < 3072
    · have hlt' : (k : Int) < 3072 := by omega
      obtain ⟨c1, c2⟩ := hW.cell (k := k) (by simp; omega)
      have HW := hideIt hW
      have HB := hideIt hb
      have HN : Hid ((List.replicate k 18446744073709551615 ++ List.replicate (3072 - k) 0).set k 18446744073709551615 = List.replicate (k + 1) 18446744073709551615 ++ List.replicate (3072 - (k + 1)) 0) := by
        obtain ⟨m, hm⟩ : ∃ m, 3072 - k = m + 1 := ⟨3072 - k - 1, by omega⟩
        have hm2 : 3072 - (k + 1) = m := by omega
        show _ = _
        rw [hm, hm2, List.replicate_succ, List.set_append_right _ _ (by simp), List.replicate_succ']
        simp
      generalize (List.replicate k 18446744073709551615 ++ List.replicate (3072 - k) 0)[k]'(by simp; omega) = u at *
      clear hW hb
      go_wp2
      go_roundw
      case rel => exact ⟨k + 1, by omega, by go_num, HN.out ▸ HW.out.set k 18446744073709551615, HB.out.setCell (Nat.le_refl _) _⟩
      case measure => simp [intOf]; omega
    · obtain rfl : k = 3072 := by omega
      have HW : Hid (WB wr w.heap.size (List.replicate 3072 18446744073709551615)) := by
        rw [Nat.sub_self, show List.replicate 0 0 = ([] : List Nat) from rfl, List.append_nil] at hW
        exact hW
      clear hW
      go_wp2
      go_ret
      exact ⟨_, _, rfl, HW.out, ⟨List.length_replicate, fun b hb => by rw [List.eq_of_mem_replicate hb]; decide⟩, rfl, Nat.le_refl _, hb⟩
end Go.Proofs.Qxb6500848aGreatDoor
