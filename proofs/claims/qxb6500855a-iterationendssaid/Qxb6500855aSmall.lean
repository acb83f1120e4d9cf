/-
  The walks of the small functions: plus, times, jobs, the size guard.
-/
import Derived.Test.Qxb6500855aRows
import Derived.Test.Qxb6500855aPlain
import Derived.WalkKit
import Derived.WalkSpells
import Derived.WalkLawsBesides
namespace Go.Proofs.Qxb6500855a
open Go.RowKit Plain

theorem ret_int {k : IntKind} {a b : Int} (h : a = b) : Ending.returned (.int k a) = .returned (.int k b) := by rw [h]
theorem ret_bool {a b : Bool} (h : a = b) : Ending.returned (.bool a) = .returned (.bool b) := by rw [h]

set_option maxHeartbeats 400000 in
theorem small_any (a : Option Addr) (n c : Nat) (w : World) :
    Calls Try.prog 4 #[.slice a n c] w fun e w' => e = .returned (.bool (decide ((n : Int) ≤ 65536))) ∧ w' = w := by
  by_cases h : (65536 : Int) < (n : Int)
  · go_enter Try.func4, Try.ntmps4
    go_wp2
    go_ret
    exact ⟨ret_bool (by simp; omega), rfl⟩
  · go_enter Try.func4, Try.ntmps4
    go_wp2
    go_ret
    exact ⟨ret_bool (by simp), rfl⟩

set_option maxHeartbeats 400000 in
theorem plus_any (a b : Int) (ha : InR a) (hb : InR b) (w : World) :
    Calls Try.prog 5 #[.int .i64 a, .int .i64 b] w fun e w' => e = .returned (.int .i64 (satAdd a b)) ∧ w' = w := by
  have a0 := ha.lo
  have a1 := ha.hi
  have b0 := hb.lo
  have b1 := hb.hi
  clear ha hb
  by_cases h : 9223372036854775807 - b < a
  · have HS : Hid (satAdd a b = 9223372036854775807) := by
      have : satAdd a b = top := if_pos (by rw [top_eq]; exact h)
      rw [this, top_eq]
      trivial
    go_enter Try.func5, Try.ntmps5
    go_wp2
    go_ret
    exact ⟨ret_int HS.out.symm, rfl⟩
  · have HS : Hid (satAdd a b = a + b) := by
      have : satAdd a b = a + b := if_neg (by rw [top_eq]; exact h)
      exact this
    go_enter Try.func5, Try.ntmps5
    go_wp2
    go_ret
    exact ⟨ret_int HS.out.symm, rfl⟩

set_option maxHeartbeats 400000 in
theorem times_any (a b : Int) (ha : InR a) (hb : InR b) (w : World) :
    Calls Try.prog 7 #[.int .i64 a, .int .i64 b] w fun e w' => e = .returned (.int .i64 (satMul a b)) ∧ w' = w := by
  by_cases hz : a = 0
  · have HS : Hid (satMul a b = 0) := if_pos hz
    subst hz
    have b0 := hb.lo
    have b1 := hb.hi
    clear ha hb
    go_enter Try.func7, Try.ntmps7
    go_wp2
    go_ret
    exact ⟨ret_int HS.out.symm, rfl⟩
  · have hp : 0 < a := by have := ha.1; omega
    have hz' : (a == 0) = false := by simpa using hz
    by_cases h : top / a < b
    · have HS : Hid (satMul a b = 9223372036854775807) := by
        have : satMul a b = top := by unfold satMul; rw [if_neg hz, if_pos h]
        rw [this, top_eq]
        trivial
      rw [top_eq] at h
      have a1 := ha.hi
      have b0 := hb.lo
      have b1 := hb.hi
      clear ha hb hz
      go_enter Try.func7, Try.ntmps7
      go_wp2
      go_ret
      exact ⟨ret_int HS.out.symm, rfl⟩
    · have HS : Hid (satMul a b = a * b) := by
        have : satMul a b = a * b := by unfold satMul; rw [if_neg hz, if_neg h]
        exact this
      have hm := mul_le_top hp h
      have hm0 : 0 ≤ a * b := Int.mul_nonneg ha.1 hb.1
      rw [top_eq] at h hm
      have a1 := ha.hi
      have b0 := hb.lo
      have b1 := hb.hi
      clear ha hb hz
      go_enter Try.func7, Try.ntmps7
      go_wp2
      go_ret
      exact ⟨ret_int HS.out.symm, rfl⟩

set_option maxHeartbeats 400000 in
theorem jobs_any (x t : Int) (hx : 0 ≤ x) (hx2 : x ≤ 100000) (ht : 1 ≤ t) (ht2 : t ≤ 256) (w : World) :
    Calls Try.prog 8 #[.int .i64 x, .int .i64 t] w fun e w' => e = .returned (.int .i64 (jobsN x t)) ∧ w' = w := by
  have hq0 : 0 ≤ x / t := Int.ediv_nonneg hx (by omega)
  have hq1 : x / t ≤ x := Int.ediv_le_self _ hx
  by_cases h : x % t = 0
  · have HS : Hid (jobsN x t = x / t) := if_pos h
    have h' : (x % t == 0) = true := by simpa using h
    clear h
    go_enter Try.func8, Try.ntmps8
    go_wp2
    go_ret
    exact ⟨ret_int HS.out.symm, rfl⟩
  · have HS : Hid (jobsN x t = x / t + 1) := if_neg h
    have h' : (x % t == 0) = false := by simpa using h
    clear h
    go_enter Try.func8, Try.ntmps8
    go_wp2
    go_ret
    exact ⟨ret_int HS.out.symm, rfl⟩
end Go.Proofs.Qxb6500855a
