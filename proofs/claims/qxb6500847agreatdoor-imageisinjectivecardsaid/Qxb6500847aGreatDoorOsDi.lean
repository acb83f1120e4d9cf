/-
  Decode: the order of the entries, what the sort asks.
-/
import Derived.Test.Qxb6500847aGreatDoorOsR2
import Derived.BigQuiet
namespace Go.Proofs.Qxb6500847aGreatDoor.Os
open Go.RowKit FloorA
set_option maxRecDepth 100000
theorem drewN2 (w : World) (a b : Nat) : (w.drewN a).drewN b = w.drewN (a + b) := by simp [World.drewN, Nat.add_assoc]
/-- By base, then by index. -/
def ltF (s : Av) (x y : Nat) : Bool := if (s.hd x).bas = (s.hd y).bas then decide (x < y) else decide ((s.hd x).bas < (s.hd y).bas)
section
variable {A : Nat} {s : Av} {w : World}
set_option maxHeartbeats 4000000 in
theorem less_walk {Ba Bo G n cap i j x y : Nat} (hA : Am w A s) (ha : w.cell? ⟨Ba, 0, none⟩ = some (.pointer (some ⟨A, 0, none⟩))) (ho : w.cell? ⟨Bo, 0, none⟩ = some (.slice (some ⟨G, 0, none⟩) n cap)) (hx : w.cell? ⟨G, i, none⟩ = some (.int .u16 (x : Int))) (hy : w.cell? ⟨G, j, none⟩ = some (.int .u16 (y : Int))) (x3 : x < 320) (y3 : y < 320) (hi : i < n) (hj : j < n) :
    Calls Tryz.prog 231 #[.int .i64 (i : Int), .int .i64 (j : Int), .pointer (some ⟨Ba, 0, none⟩), .pointer (some ⟨Bo, 0, none⟩)] w fun e w' => e = .returned (.bool (ltF s x y)) ∧ ∃ q, w' = w.drewN q := by
  have bx := hA.bas x3
  have by' := hA.bas y3
  have i1 : (i : Int) < (n : Int) := by omega
  have j1 : (j : Int) < (n : Int) := by omega
  have x1 : (x : Int) < 320 := by omega
  have y1 : (y : Int) < 320 := by omega
  clear hA
  by_cases e : (s.hd x).bas = (s.hd y).bas
  · have kn : ((s.hd x).bas != (s.hd y).bas) = false := by rw [e]; exact bne_self_eq_false _
    have HL : Hid (ltF s x y = decide (x < y)) := by
      show _ = _
      unfold ltF
      rw [if_pos e]
    rw [HL.out]
    clear HL
    generalize (s.hd x).bas = b1 at *
    generalize (s.hd y).bas = b2 at *
    clear e
    go_enter Tryz.func231, Tryz.ntmps231
    go_wp2_with fail
    go_quiet (fail)
    go_wp2_with fail
    go_quiet (fail)
    go_wp2_with fail
    go_quiet (fail)
    go_wp2_with fail
    go_ret
    exact ⟨rfl, _, by rw [drewN2, drewN2]⟩
  · have kn : ((s.hd x).bas != (s.hd y).bas) = true := by rw [bne_iff_ne]; exact e
    have HL : Hid (ltF s x y = decide ((s.hd x).bas < (s.hd y).bas)) := by
      show _ = _
      unfold ltF
      rw [if_neg e]
    rw [HL.out]
    clear HL
    generalize (s.hd x).bas = b1 at *
    generalize (s.hd y).bas = b2 at *
    clear e
    go_enter Tryz.func231, Tryz.ntmps231
    go_wp2_with fail
    go_quiet (fail)
    go_wp2_with fail
    go_quiet (fail)
    go_wp2_with fail
    go_quiet (fail)
    go_wp2_with fail
    go_ret
    exact ⟨rfl, _, by rw [drewN2, drewN2]⟩
end
end Go.Proofs.Qxb6500847aGreatDoor.Os
