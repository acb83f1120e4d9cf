/-
  The walks of slices.Equal at the two element types, and of Same.
-/
import Derived.Test.Qxb6500848aGreatDoorWalkA
namespace Go.Proofs.Qxb6500848aGreatDoor
open Go.RowKit Pl
set_option maxRecDepth 100000

theorem eq_take_succ {α : Type} {l m : List α} {k : Nat} (h1 : k < l.length) (h2 : k < m.length) (ht : l.take k = m.take k) (he : l[k] = m[k]) : l.take (k + 1) = m.take (k + 1) := by
  rw [List.take_succ_eq_append_getElem h1, List.take_succ_eq_append_getElem h2, ht, he]
theorem ne_at {α : Type} {l m : List α} {k : Nat} (h1 : k < l.length) (h2 : k < m.length) (he : ¬ l[k] = m[k]) : ¬ l = m := fun e => he (by subst e; rfl)

set_option maxHeartbeats 1000000 in
theorem equalI_walk {X Y : Nat → Prop} {w : World} {v1 v2 : Value} {l m : List Int} (h1 : Seq encI X w v1 l) (h2 : Seq encI Y w v2 m) :
    Calls Tryz.prog 57 #[v1, v2] w fun e w' => e = .returned (.bool (decide (l = m))) ∧ ∃ q, w' = w.drewN q := by
  obtain ⟨a1, c1, rfl, l1, l2, H1⟩ := h1
  obtain ⟨a2, c2, rfl, m1, m2, H2⟩ := h2
  have h62 : l.length ≤ 9223372036854775807 := by unfold maxLen at l2; omega
  have K1 := hideIt H1
  have K2 := hideIt H2
  clear H1 H2
  by_cases hl : l.length = m.length
  · rw [hl]
    rw [hl] at h62 l1
    go_enter Tryz.func57, Tryz.ntmps57
    go_wp2
    go_loopw [13] (fun i wr => ∃ k : Nat, k ≤ m.length ∧ i = .int .i64 k ∧ l.take k = m.take k ∧ ∃ q, wr = w.drewN q) (fun i _ => m.length - (intOf i).toNat)
    case atStart => exact ⟨0, by omega, rfl, rfl, 0, rfl⟩
    case round =>
      obtain ⟨k, hk, rfl, ht, q, rfl⟩ := hrel
      by_cases hlt : k < m.length
      · have hlt' : (k : Int) < (m.length : Int) := by omega
        have hkl : k < l.length := by omega
        obtain ⟨g1, o1, rfl, _, hc1⟩ := K1.out (fun e => by rw [e] at hkl; cases hkl)
        obtain ⟨g2, o2, rfl, _, hc2⟩ := K2.out (fun e => by rw [e] at hlt; cases hlt)
        have e1 := hc1 k hkl
        have e2 := hc2 k hlt
        have HT := hideIt ht
        clear hc1 hc2 ht
        by_cases he : l[k] = m[k]
        · have HE : Hid (l.take (k + 1) = m.take (k + 1)) := eq_take_succ hkl hlt HT.out he
          rw [he] at e1
          generalize m[k] = z at e1 e2
          clear he
          go_wp2_with fail
          go_region
          go_wp2_with fail
          go_roundw
          case rel => exact ⟨k + 1, by omega, by go_num, HE.out, q + 1, rfl⟩
          case measure => simp [intOf]; omega
        · have HE : Hid (¬ l = m) := ne_at hkl hlt he
          generalize l[k] = z1 at e1 he
          generalize m[k] = z2 at e2 he
          have he' : ¬ (z1 = z2) := by omega
          go_wp2_with fail
          go_region
          go_wp2_with fail
          go_ret
          exact ⟨ret_bool (decide_eq_false HE.out).symm, q + 1, rfl⟩
      · obtain rfl : k = m.length := by omega
        have HE : Hid (l = m) := by
          have h1 : l.take m.length = l := List.take_of_length_le (by omega)
          have h2 : m.take m.length = m := List.take_of_length_le (by omega)
          exact h1.symm.trans (ht.trans h2)
        clear ht
        go_wp2
        go_ret
        exact ⟨ret_bool (decide_eq_true HE.out).symm, q, rfl⟩
  · have hl' : ¬ ((l.length : Int) = (m.length : Int)) := by omega
    go_enter Tryz.func57, Tryz.ntmps57
    go_wp2
    go_ret
    exact ⟨ret_bool (decide_eq_false (fun e => hl (by rw [e]))).symm, 0, rfl⟩

set_option maxHeartbeats 1000000 in
theorem equalS_walk {X Y : Nat → Prop} {w : World} {v1 v2 : Value} {l m : List Nat} (h1 : Seq encW X w v1 l) (h2 : Seq encW Y w v2 m) :
    Calls Tryz.prog 76 #[v1, v2] w fun e w' => e = .returned (.bool (decide (l = m))) ∧ ∃ q, w' = w.drewN q := by
  obtain ⟨a1, c1, rfl, l1, l2, H1⟩ := h1
  obtain ⟨a2, c2, rfl, m1, m2, H2⟩ := h2
  have h62 : l.length ≤ 9223372036854775807 := by unfold maxLen at l2; omega
  have K1 := hideIt H1
  have K2 := hideIt H2
  clear H1 H2
  by_cases hl : l.length = m.length
  · rw [hl]
    rw [hl] at h62 l1
    go_enter Tryz.func76, Tryz.ntmps76
    go_wp2
    go_loopw [13] (fun i wr => ∃ k : Nat, k ≤ m.length ∧ i = .int .i64 k ∧ l.take k = m.take k ∧ ∃ q, wr = w.drewN q) (fun i _ => m.length - (intOf i).toNat)
    case atStart => exact ⟨0, by omega, rfl, rfl, 0, rfl⟩
    case round =>
      obtain ⟨k, hk, rfl, ht, q, rfl⟩ := hrel
      by_cases hlt : k < m.length
      · have hlt' : (k : Int) < (m.length : Int) := by omega
        have hkl : k < l.length := by omega
        obtain ⟨g1, o1, rfl, _, hc1⟩ := K1.out (fun e => by rw [e] at hkl; cases hkl)
        obtain ⟨g2, o2, rfl, _, hc2⟩ := K2.out (fun e => by rw [e] at hlt; cases hlt)
        have e1 := hc1 k hkl
        have e2 := hc2 k hlt
        have HT := hideIt ht
        clear hc1 hc2 ht
        by_cases he : l[k] = m[k]
        · have HE : Hid (l.take (k + 1) = m.take (k + 1)) := eq_take_succ hkl hlt HT.out he
          rw [he] at e1
          generalize m[k] = z at e1 e2
          clear he
          go_wp2_with fail
          go_region
          go_wp2_with fail
          go_roundw
          case rel => exact ⟨k + 1, by omega, by go_num, HE.out, q + 1, rfl⟩
          case measure => simp [intOf]; omega
        · have HE : Hid (¬ l = m) := ne_at hkl hlt he
          generalize l[k] = z1 at e1 he
          generalize m[k] = z2 at e2 he
          have he' : ¬ ((z1 : Int) = (z2 : Int)) := by omega
          go_wp2_with fail
          go_region
          go_wp2_with fail
          go_ret
          exact ⟨ret_bool (decide_eq_false HE.out).symm, q + 1, rfl⟩
      · obtain rfl : k = m.length := by omega
        have HE : Hid (l = m) := by
          have h1 : l.take m.length = l := List.take_of_length_le (by omega)
          have h2 : m.take m.length = m := List.take_of_length_le (by omega)
          exact h1.symm.trans (ht.trans h2)
        clear ht
        go_wp2
        go_ret
        exact ⟨ret_bool (decide_eq_true HE.out).symm, q, rfl⟩
  · have hl' : ¬ ((l.length : Int) = (m.length : Int)) := by omega
    go_enter Tryz.func76, Tryz.ntmps76
    go_wp2
    go_ret
    exact ⟨ret_bool (decide_eq_false (fun e => hl (by rw [e]))).symm, 0, rfl⟩

theorem same_walk {X Y : Nat → Prop} {w : World} {v1 v2 : Value} {l m : List Nat} (h1 : Seq encW X w v1 l) (h2 : Seq encW Y w v2 m) :
    Calls Tryz.prog 22 #[v1, v2] w fun e w' => e = .returned (.bool (decide (l = m))) ∧ ∃ q, w' = w.drewN q := by
  have H1 := hideIt h1
  have H2 := hideIt h2
  clear h1 h2
  go_enter Tryz.func22, Tryz.ntmps22
  go_wp2_with (go_at_call 76; refine (equalS_walk H1.out H2.out).mono ?_; rintro e w1 ⟨rfl, q, rfl⟩)
  go_ret
  exact ⟨rfl, q, rfl⟩
end Go.Proofs.Qxb6500848aGreatDoor
