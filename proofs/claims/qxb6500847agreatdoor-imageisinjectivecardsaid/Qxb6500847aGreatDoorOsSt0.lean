/-
  The cells of a Stats.
-/
import Derived.Test.Qxb6500847aGreatDoorOsR2
namespace Go.Proofs.Qxb6500847aGreatDoor.Os
open Go.RowKit FloorA
set_option maxRecDepth 100000
def st17 (o a b c d e f : Int) (l : Nat → Int) (p q : Int) : List Value := [.int .i64 o, .int .i64 a, .int .i64 b, .int .i64 c, .int .i64 d, .int .i64 e, .int .i64 f, .int .i64 (l 0), .int .i64 (l 1), .int .i64 (l 2), .int .i64 (l 3), .int .i64 (l 4), .int .i64 (l 5), .int .i64 (l 6), .int .i64 (l 7), .int .u64 p, .int .u64 q]
theorem st17_one (o a b c d e f : Int) (l : Nat → Int) (p q : Int) : ∀ v ∈ st17 o a b c d e f l p q, v.oneCell' = true := by
  intro v hv
  simp only [st17, List.mem_cons, List.not_mem_nil, or_false] at hv
  rcases hv with rfl | rfl | rfl | rfl | rfl | rfl | rfl | rfl | rfl | rfl | rfl | rfl | rfl | rfl | rfl | rfl | rfl <;> rfl
theorem st17_set {w : World} {bb : Nat} {o o' a b c d e f : Int} {l : Nat → Int} {p q : Int} (h : w.rangeAt bb 0 (st17 o a b c d e f l p q)) : (w.setCell ⟨bb, 0, none⟩ (.int .i64 o')).rangeAt bb 0 (st17 o' a b c d e f l p q) := fun j v hj => by
  cases j with
  | zero =>
    have e : Value.int .i64 o' = v := Option.some.inj hj
    subst e
    exact set_same (h 0 (.int .i64 o) rfl)
  | succ j =>
    rw [set_other (fun q => by injection q with _ q2; omega)]
    exact h (j + 1) v hj
theorem twos (k : IntKind) (a b : Int) : ∀ u ∈ [Value.int k a, Value.int k b], u.oneCell' = true := by
  intro u hu; simp at hu; rcases hu with rfl | rfl <;> rfl
end Go.Proofs.Qxb6500847aGreatDoor.Os
