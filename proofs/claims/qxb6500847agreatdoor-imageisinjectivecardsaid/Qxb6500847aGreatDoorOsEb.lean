/-
  Reading numbers.
-/
import Derived.Test.Qxb6500847aGreatDoorOsEa
namespace Go.Proofs.Qxb6500847aGreatDoor.Os
open Go.RowKit FloorA
set_option maxRecDepth 100000
theorem u64w (n : Nat) (h : n < 18446744073709551616) : IntKind.u64.wrap (n : Int) = (n : Int) := by
  unfold IntKind.wrap; simp [IntKind.bits, IntKind.signed]; omega
theorem pow9 : ∀ k, k ≤ 9 → 1 ≤ 128 ^ k ∧ 128 ^ k ≤ 9223372036854775808
  | 0, _ => by decide
  | 1, _ => by decide
  | 2, _ => by decide
  | 3, _ => by decide
  | 4, _ => by decide
  | 5, _ => by decide
  | 6, _ => by decide
  | 7, _ => by decide
  | 8, _ => by decide
  | 9, _ => by decide
  | k + 10, h => by omega
set_option maxHeartbeats 1600000 in
theorem uvarint_walk (g p n cap v : Nat) (w : World) (hv : v < 18446744073709551616) (hL : (uvs v).length ≤ n) (hb : BytesAt w g p (uvs v)) :
    Calls Tryz.prog 225 #[.slice (some ⟨g, p, none⟩) n cap] w fun e w' => e = .returned (.tuple #[.int .u64 (v : Int), .int .i64 ((uvs v).length : Int), .bool true]) ∧ w' = w := by
  have HB : Hid (BytesAt w g p (uvs v)) := hb
  have HL : Hid ((uvs v).length ≤ n) := hL
  clear hb hL
  go_enter Tryz.func225, Tryz.ntmps225
  go_wp2_with fail
  go_loopw [2, 5, 6] (fun s2 s5 s6 wr => ∃ (k acc rest : Nat), wr = w ∧ s6 = .int .i64 (k : Int) ∧ s2 = .int .u64 (acc : Int) ∧ s5 = .int .u64 ((128 ^ k : Nat) : Int) ∧ k ≤ 9 ∧ v = acc + 128 ^ k * rest ∧ (0 < k → 0 < rest) ∧ (uvs v).length = k + (uvs rest).length ∧ ∀ j, (uvs v).getD (k + j) 0 = (uvs rest).getD j 0) (fun _ _ s6 _ => 10 - (intOf s6).toNat)
  case atStart => exact ⟨0, 0, v, rfl, rfl, rfl, rfl, by omega, by simp, fun h => absurd h (Nat.lt_irrefl _), by simp, fun j => by rw [Nat.zero_add]⟩
  case round =>
    obtain ⟨k, acc, rest, rfl, rfl, rfl, rfl, hk, hv2, hpos, hlen, hget⟩ := hrel
    have hup := uvs_pos rest
    obtain ⟨hc, hc0, hc1⟩ := HB.out k (by omega)
    have hg0 := hget 0
    rw [Nat.add_zero] at hg0
    rw [hg0] at hc
    have HLn := hideIt hlen
    have HG : Hid (∀ j, (uvs v).getD (k + j) 0 = (uvs rest).getD j 0) := hget
    have kn : k < n := by have := HL.out; omega
    have kn' : (k : Int) < (n : Int) := by omega
    have k10 : (k : Int) < 10 := by omega
    have HP9 := hideIt (pow9 k hk)
    have HPS : Hid (128 ^ (k + 1) = 128 ^ k * 128) := Nat.pow_succ ..
    have HK9 : Hid (k = 9 → 128 ^ k = 9223372036854775808) := fun e => by rw [e]
    by_cases hlt : rest < 128
    · rw [uvs_lo hlt] at hc
      rw [List.getD_cons_zero] at hc
      have hr1 : k = 9 → rest ≤ 1 := fun e => by
        rw [HK9.out e] at hv2
        omega
      have HV2 := hideIt hv2
      clear hlen hget hg0 hc0 hc1
      have lr : (rest : Int) < 128 := by omega
      have dm : (rest : Int) % 128 = (rest : Int) := by omega
      have hmul : rest * 128 ^ k < 18446744073709551616 := by rw [Nat.mul_comm]; omega
      have hm : IntKind.u64.wrap ((rest : Int) * ((128 ^ k : Nat) : Int)) = ((rest * 128 ^ k : Nat) : Int) := by
        rw [← Int.natCast_mul]; exact u64w _ hmul
      have ha : IntKind.u64.wrap ((acc : Int) + ((rest * 128 ^ k : Nat) : Int)) = (v : Int) := by
        have e : acc + rest * 128 ^ k = v := by rw [HV2.out, Nat.mul_comm]
        rw [← Int.natCast_add, e]; exact u64w _ hv
      have HF : Hid ((.returned (.tuple #[.int .u64 (v : Int), .int .i64 ((k : Int) + 1), .bool true]) : Ending) = .returned (.tuple #[.int .u64 (v : Int), .int .i64 ((uvs v).length : Int), .bool true])) := by
        have := HLn.out
        rw [uvs_lo hlt] at this
        simp only [List.length_cons, List.length_nil] at this
        show _ = _
        rw [this]
        rfl
      clear hv2
      generalize 128 ^ k = P at *
      generalize rest * P = Q at *
      by_cases h9 : k = 9
      · have kk : ((k : Int) == 9) = true := by rw [beq_iff_eq]; omega
        have r1 := hr1 h9
        have r0 := hpos (by omega)
        have rg : ¬ (rest : Int) > 1 := by omega
        have rn : ((rest : Int) == 0) = false := by rw [beq_eq_false_iff_ne]; omega
        clear h9 hr1 hpos r1 r0
        go_wp2_with fail
        exact bodyPost_ret (by simp [results, Tryz.results225]) rfl ⟨HF.out, rfl⟩
      · have kk : ((k : Int) == 9) = false := by rw [beq_eq_false_iff_ne]; omega
        by_cases hr0 : rest = 0
        · have k0 : k = 0 := by
            rcases Nat.eq_zero_or_pos k with e | e
            · exact e
            · have := hpos e; omega
          have rn : ((rest : Int) == 0) = true := by rw [beq_iff_eq]; omega
          have kz : ¬ (k : Int) > 0 := by omega
          clear hr0 k0 hpos h9 hr1
          go_wp2_with fail
          exact bodyPost_ret (by simp [results, Tryz.results225]) rfl ⟨HF.out, rfl⟩
        · have rn : ((rest : Int) == 0) = false := by rw [beq_eq_false_iff_ne]; omega
          go_wp2_with fail
          exact bodyPost_ret (by simp [results, Tryz.results225]) rfl ⟨HF.out, rfl⟩
    · have hge : 128 ≤ rest := by omega
      rw [uvs_hi hge] at hc
      rw [List.getD_cons_zero] at hc
      have k9 : k < 9 := by
        rcases Nat.lt_or_ge k 9 with e | e
        · exact e
        · have e9 : k = 9 := by omega
          rw [HK9.out e9] at hv2
          omega
      have kk : ((k : Int) == 9) = false := by rw [beq_eq_false_iff_ne]; omega
      have e1 : ((rest % 128 + 128 : Nat) : Int) = (rest : Int) % 128 + 128 := by omega
      rw [e1] at hc
      have dm : ((rest : Int) % 128 + 128) % 128 = (rest : Int) % 128 := by omega
      have lc : ¬ (rest : Int) % 128 + 128 < 128 := by omega
      have hmul : rest % 128 * 128 ^ k ≤ 128 ^ k * rest := by
        rw [Nat.mul_comm]; exact Nat.mul_le_mul_left _ (Nat.mod_le _ _)
      have hm : IntKind.u64.wrap ((rest : Int) % 128 * ((128 ^ k : Nat) : Int)) = ((rest % 128 * 128 ^ k : Nat) : Int) := by
        have : (rest : Int) % 128 = ((rest % 128 : Nat) : Int) := by omega
        rw [this, ← Int.natCast_mul]; exact u64w _ (by omega)
      have ha : IntKind.u64.wrap ((acc : Int) + ((rest % 128 * 128 ^ k : Nat) : Int)) = ((acc + rest % 128 * 128 ^ k : Nat) : Int) := by
        rw [← Int.natCast_add]; exact u64w _ (by omega)
      have hw2 : IntKind.u64.wrap (((128 ^ k : Nat) : Int) * 128) = ((128 ^ (k + 1) : Nat) : Int) := by
        have := (pow9 (k + 1) (by omega)).2
        rw [HPS.out] at this ⊢
        rw [Int.natCast_mul]
        exact u64w (128 ^ k * 128) (by omega)
      have HN : Hid (v = acc + rest % 128 * 128 ^ k + 128 ^ (k + 1) * (rest / 128) ∧ 0 < rest / 128 ∧ (uvs v).length = k + 1 + (uvs (rest / 128)).length ∧ ∀ j, (uvs v).getD (k + 1 + j) 0 = (uvs (rest / 128)).getD j 0) := by
        refine ⟨?_, by omega, ?_, fun j => ?_⟩
        · rw [hv2, HPS.out, Nat.add_assoc, Nat.mul_assoc, Nat.mul_comm (rest % 128), ← Nat.mul_add]
          congr 2
          omega
        · have := HLn.out
          rw [uvs_hi hge] at this
          simp only [List.length_cons] at this
          omega
        · have := HG.out (j + 1)
          rw [uvs_hi hge, List.getD_cons_succ] at this
          rw [← this]
          congr 1
          omega
      clear hv2 hlen hget hg0 hc0 hc1 hpos
      generalize hP : 128 ^ k = P at *
      generalize hP2 : 128 ^ (k + 1) = P2 at *
      have HP2 := hideIt hP2
      generalize rest % 128 * P = Q at *
      clear hP hP2
      go_wp2_with fail
      obtain ⟨n1, n2, n3, n4⟩ := HN.out
      go_roundw
      case rel => exact ⟨k + 1, acc + Q, rest / 128, by first | rfl | trivial, by go_num, rfl, by rw [HP2.out], by omega, by rw [HP2.out]; exact n1, fun _ => n2, n3, n4⟩
      case measure => simp [intOf]; omega
end Go.Proofs.Qxb6500847aGreatDoor.Os
