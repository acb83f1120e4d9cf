/-
  Calls that only ask: TypeOf, Generation.
-/
import Derived.Test.Qxb6500847aGreatDoorOsR2
import Derived.BigQuiet
namespace Go.Proofs.Qxb6500847aGreatDoor.Os
open Go.RowKit FloorA
set_option maxRecDepth 100000
section
variable {A : Nat} {s : Av} {w : World} {i : Nat}
set_option maxHeartbeats 1600000 in
theorem TypeOf_walk (hA : Am w A s) (i : Nat) (g : Int) :
    Calls Tryz.prog 91 #[.pointer (some ⟨A, 0, none⟩), .agg #[.int .u16 (i : Int), .int .u32 g]] w fun e w' => e = .returned (.int .u8 (if Live s i g then (s.hd i).typ else 0)) ∧ Below w.heap.size w w' := by
  have bB := alloc_below (w := w) (.cells #[.int .u16 (i : Int), .int .u32 g] 32)
  have hz : (w.alloc (.cells #[.int .u16 (i : Int), .int .u32 g] 32)).heap[w.heap.size]? = some (.cells #[.int .u16 (i : Int), .int .u32 g] 32 (0, 0)) := heap_new _ _
  have HA := hideIt (hA.below bB)
  have HB := hideIt bB
  clear hA bB
  have HV := hideIt (valid_walk HA.out i g)
  by_cases hl : Live s i g
  · rw [if_pos hl]
    rw [decide_eq_true hl] at HV
    have i320 : (i : Int) < 320 := by have := hl.1; omega
    have il := hl.1
    clear hl
    go_enter Tryz.func91, Tryz.ntmps91
    go_wp2_with fail
    go_at_call 23
    refine HV.out.mono ?_
    rintro e w1 ⟨rfl, hb1⟩
    have HB1 := hideIt (Below.thr HB.out hb1)
    have et := (HA.out.below hb1).typ il
    obtain ⟨x0, x1, _, _⟩ := two_cells ((hb1.block w.heap.size (heap_lt hz)).trans hz)
    clear hb1 hz
    go_wp2_with fail
    go_region
    go_wp2_with fail
    go_ret
    exact ⟨rfl, Below.thr HB1.out (below_d _)⟩
  · rw [if_neg hl]
    rw [decide_eq_false hl] at HV
    clear hl
    go_enter Tryz.func91, Tryz.ntmps91
    go_wp2_with fail
    go_at_call 23
    refine HV.out.mono ?_
    rintro e w1 ⟨rfl, hb1⟩
    have HB1 := hideIt (Below.thr HB.out hb1)
    clear hb1 hz
    go_wp2_with fail
    go_ret
    exact ⟨rfl, HB1.out⟩
def GnPost (s : Av) (i : Nat) (w : World) (e : Ending) (w' : World) : Prop :=
  (∃ v code, e = .returned (.tuple #[.int .u32 0, .bool false, v]) ∧ Refu w v w' code) ∨ ((∃ b, e = .returned (.tuple #[.int .u32 (s.hd i).gen, .bool b, .nilIface])) ∧ Below w.heap.size w w')
set_option maxHeartbeats 1600000 in
theorem Generation_walk (hA : Am w A s) (i : Nat) :
    Calls Tryz.prog 59 #[.pointer (some ⟨A, 0, none⟩), .int .u16 (i : Int)] w (GnPost s i w) := by
  by_cases hi : i < 320
  · have c1 : ¬ (i : Int) ≥ 320 := by omega
    have e0 := hA.gen hi
    have e1 := hA.typ hi
    go_enter Tryz.func59, Tryz.ntmps59
    go_wp2_with fail
    go_region
    go_wp2_with fail
    exact bodyPost_ret (v := .tuple #[.int .u32 (s.hd i).gen, .bool ((s.hd i).typ != 0), .nilIface]) (by simp [results, Tryz.results59]) rfl (Or.inr ⟨⟨_, rfl⟩, below_d _⟩)
  · have c1 : (i : Int) ≥ 320 := by omega
    go_enter Tryz.func59, Tryz.ntmps59
    go_wp2_with (go_at_call 123; refine (refuse_walk _ _ _ _ _ _).mono ?_; rintro e w2 ⟨v, rfl, hv, hb⟩)
    exact bodyPost_ret (by simp [results, Tryz.results59]) rfl (Or.inl ⟨v, _, rfl, hv, by omega, hb⟩)
end
end Go.Proofs.Qxb6500847aGreatDoor.Os
