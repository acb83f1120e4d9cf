/-
  sameWords; references that differ.
-/
import Derived.Test.Qxb6500847aGreatDoorOxSm
import Derived.Test.Qxb6500847aGreatDoorEqA
namespace Go.Proofs.Qxb6500847aGreatDoor.Os
open Go.RowKit FloorA
set_option maxRecDepth 100000
theorem off32 : offT Tryz.prog 10000 32 0 = [0, 1] := by kernel_rfl
theorem neq_ref (i j : Int) {g h : Int} (hne : g ≠ h) (w : World) : (binOp .neq 32 (.agg #[.int .u16 i, .int .u32 g]) (.agg #[.int .u16 j, .int .u32 h])).run Tryz.prog w = .ok (.bool true) w := by
  obtain ⟨b, h1, h2⟩ := eq_any (P := Tryz.prog) 10000 32 [.int .u16 i, .int .u32 g] [.int .u16 j, .int .u32 h] (by kernel_rfl) (by kernel_rfl) (fun k v v' a b => by
    match k, a, b with
    | 0, a, b => simp at a b; subst a b; rfl
    | 1, a, b => simp at a b; subst a b; rfl
    | k + 2, a, _ => simp at a)
  have e : ∀ x y, valT Tryz.prog 32 [.int .u16 x, .int .u32 y] = .agg #[.int .u16 x, .int .u32 y] := fun x y => by
    unfold valT
    rw [if_pos (by kernel_rfl)]
  have hb : b = false := by
    cases b
    · rfl
    · obtain ⟨v, v', a1, a2, a3⟩ := h2 rfl 0 _ _ (fun k v q => by rw [Nat.zero_add]; exact q) (fun k v q => by rw [Nat.zero_add]; exact q) 1 (by rw [off32]; simp)
      simp at a1 a2
      subst a1 a2
      exact absurd a3 hne
  have key := h1 w
  rw [e, e, hb] at key
  rw [run_neq_struct, key]
  rfl
set_option maxHeartbeats 4000000 in
theorem sameWords_x {w : World} {B B' : Nat} {v1 v2 : Value} {V : List Int} (h1 : IsU B w v1 V) (h2 : IsU B' w v2 V) (hV : V.length ≤ 4096) :
    Calls Tryz.prog 92 #[v1, v2] w fun e w' => e = .returned (.bool true) ∧ Below w.heap.size w w' := by
  obtain ⟨a2, c2, rfl, f2⟩ := h1
  obtain ⟨a4, c4, rfl, f4⟩ := h2
  have HF2 := hideIt f2
  have HF4 := hideIt f4
  clear f2 f4
  go_enter Tryz.func92, Tryz.ntmps92
  go_wp2_with fail
  go_loopw [13] (fun v13 wr => ∃ k : Nat, k ≤ V.length ∧ v13 = .int .i64 (k : Int) ∧ Below w.heap.size w wr) (fun i _ => V.length - (intOf i).toNat)
  case atStart => exact ⟨0, Nat.zero_le _, rfl, Below.refl _ _⟩
  case round =>
    obtain ⟨j, hj, rfl, hbr⟩ := hrel
    have HBS := hideIt hbr
    by_cases hlj : j < V.length
    · have hlj' : (j : Int) < (V.length : Int) := by omega
      obtain ⟨b2, o2, rfl, _, g2⟩ := HF2.out (by omega)
      obtain ⟨b4, o4, rfl, _, g4⟩ := HF4.out (by omega)
      have q1 : (V.map (Value.int .u64))[j]? = some (.int .u64 V[j]) := by rw [List.getElem?_map, List.getElem?_eq_getElem hlj]; rfl
      have x0 := (hbr.cell (p := ⟨b2, o2 + j, none⟩) (cell_lt (g2 _ _ q1))).trans (g2 _ _ q1)
      have x2 := (hbr.cell (p := ⟨b4, o4 + j, none⟩) (cell_lt (g4 _ _ q1))).trans (g4 _ _ q1)
      clear q1 g2 g4 hbr
      generalize V[j] = vi at *
      go_wp2_with fail
      go_region
      all_goals
        go_wp2_with fail
        go_roundw
        case rel => exact ⟨j + 1, by omega, by go_num, Below.thr HBS.out (below_d _)⟩
        case measure => simp [intOf]; omega
    · obtain rfl : j = V.length := by omega
      clear hbr
      go_wp2_with fail
      go_ret
      exact ⟨rfl, HBS.out⟩
end Go.Proofs.Qxb6500847aGreatDoor.Os
