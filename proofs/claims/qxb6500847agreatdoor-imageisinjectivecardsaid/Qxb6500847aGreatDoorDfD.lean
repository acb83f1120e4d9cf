/-
  slices.Equal on two lists of differences that are the same.
-/
import Derived.Test.Qxb6500847aGreatDoorDfB
import Derived.Test.Qxb6500847aGreatDoorOxSm
namespace Go.Proofs.Qxb6500847aGreatDoor.Os
open Go.RowKit FloorA
set_option maxRecDepth 100000
theorem dfCs_get {l : List Df} {k : Nat} {d : Df} (h : l[k]? = some d) : ∀ j, j < 5 → (dfCs l)[k * 5 + j]? = (dfC d)[j]? := by
  induction l generalizing k with
  | nil => simp at h
  | cons a l ih =>
    have hc : dfCs (a :: l) = dfC a ++ dfCs l := by unfold dfCs; rw [List.flatMap_cons]
    intro j hj
    match k, h with
    | 0, h =>
      simp at h
      subst h
      rw [hc, List.getElem?_append_left (by show 0 * 5 + j < 5; omega)]
      congr 1
      omega
    | k + 1, h =>
      rw [hc, List.getElem?_append_right (by show 5 ≤ _; omega)]
      show (dfCs l)[(k + 1) * 5 + j - 5]? = _
      rw [show (k + 1) * 5 + j - 5 = k * 5 + j by omega]
      exact ih (by simpa using h) j hj
theorem eq_df (i p f : Nat) (a b : Int) (w : World) : (binOp .neq 88 (.agg #[.int .u16 (i : Int), .int .u8 (p : Int), .int .u16 (f : Int), .int .u64 a, .int .u64 b]) (.agg #[.int .u16 (i : Int), .int .u8 (p : Int), .int .u16 (f : Int), .int .u64 a, .int .u64 b])).run Tryz.prog w = .ok (.bool false) w := by
  have h := eq_self (P := Tryz.prog) 10000 88 [.int .u16 (i : Int), .int .u8 (p : Int), .int .u16 (f : Int), .int .u64 a, .int .u64 b] (by kernel_rfl) w
  have e : valT Tryz.prog 88 [.int .u16 (i : Int), .int .u8 (p : Int), .int .u16 (f : Int), .int .u64 a, .int .u64 b] = .agg #[.int .u16 (i : Int), .int .u8 (p : Int), .int .u16 (f : Int), .int .u64 a, .int .u64 b] := by
    unfold valT
    rw [if_pos (by kernel_rfl)]
  rw [e] at h
  rw [run_neq_struct, h]
  rfl
set_option maxHeartbeats 4000000 in
theorem equal_df {w : World} {B B' : Nat} {v1 v2 : Value} {l : List Df} (h1 : Sq B w v1 l.length (dfCs l)) (h2 : Sq B' w v2 l.length (dfCs l)) (hl : l.length ≤ 40000) :
    Calls Tryz.prog 33 #[v1, v2] w fun e w' => e = .returned (.bool true) ∧ Below w.heap.size w w' := by
  obtain ⟨a1, c1, rfl, f1⟩ := h1
  obtain ⟨a2, c2, rfl, f2⟩ := h2
  have HF1 := hideIt f1
  have HF2 := hideIt f2
  clear f1 f2
  go_enter Tryz.func33, Tryz.ntmps33
  go_wp2_with fail
  go_loopw [13] (fun v13 wr => ∃ k : Nat, k ≤ l.length ∧ v13 = .int .i64 (k : Int) ∧ Below w.heap.size w wr) (fun i _ => l.length - (intOf i).toNat)
  case atStart => exact ⟨0, Nat.zero_le _, rfl, Below.refl _ _⟩
  case round =>
    obtain ⟨k, hk, rfl, hbr⟩ := hrel
    have HBR := hideIt hbr
    by_cases hlt : k < l.length
    · have hlt' : (k : Int) < (l.length : Int) := by omega
      obtain ⟨b1, o1, rfl, _, g1⟩ := HF1.out (by omega)
      obtain ⟨b2, o2, rfl, _, g2⟩ := HF2.out (by omega)
      have q := dfCs_get (List.getElem?_eq_getElem hlt)
      generalize l[k] = d at *
      obtain ⟨i, p, f, a, b⟩ := d
      have X : ∀ j v, j < 5 → (dfC ⟨i, p, f, a, b⟩)[j]? = some v → wr.cell? ⟨b1, o1 + (k * 5 + j), none⟩ = some v ∧ wr.cell? ⟨b2, o2 + (k * 5 + j), none⟩ = some v := fun j v hj hv => by
        have e1 := g1 (k * 5 + j) v ((q j hj).trans hv)
        have e2 := g2 (k * 5 + j) v ((q j hj).trans hv)
        exact ⟨(hbr.cell (p := ⟨b1, o1 + (k * 5 + j), none⟩) (cell_lt e1)).trans e1, (hbr.cell (p := ⟨b2, o2 + (k * 5 + j), none⟩) (cell_lt e2)).trans e2⟩
      obtain ⟨x0, y0⟩ := X 0 _ (by omega) rfl
      obtain ⟨x1, y1⟩ := X 1 _ (by omega) rfl
      obtain ⟨x2, y2⟩ := X 2 _ (by omega) rfl
      obtain ⟨x3, y3⟩ := X 3 _ (by omega) rfl
      obtain ⟨x4, y4⟩ := X 4 _ (by omega) rfl
      rw [Nat.add_zero] at x0 y0
      rw [← Nat.add_assoc] at x1 y1 x2 y2 x3 y3 x4 y4
      have xe := eq_df i p f a b wr
      have xd := eq_df i p f a b wr.drew
      clear q g1 g2 hbr X
      go_wp2_with fail
      go_region
      all_goals
        go_wp2_with fail
        go_roundw
        case rel => exact ⟨k + 1, by omega, by go_num, Below.thr HBR.out (below_d _)⟩
        case measure => simp [intOf]; omega
    · obtain rfl : k = l.length := by omega
      clear hbr
      go_wp2_with fail
      go_ret
      exact ⟨rfl, HBR.out⟩
end Go.Proofs.Qxb6500847aGreatDoor.Os
