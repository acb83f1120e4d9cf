/-
  Sizes and places, exactly.
-/
import Derived.Test.Qxb6500847aGreatDoorOxG
import Derived.Test.Qxb6500847aGreatDoorOsY
namespace Go.Proofs.Qxb6500847aGreatDoor.Os
open Go.RowKit FloorA
set_option maxRecDepth 100000
/-- The code of SizeOf, and the size's power. -/
def szC (t b : Nat) : Int := if t = 0 ∨ 8 ≤ t then 4 else if t = 1 then (if b < 4 ∨ 47 < b then 5 else 0) else if b ≠ 0 then 5 else 0
def szQ (t b : Nat) : Nat := if t = 1 then b else kBits t
def SzX (t b : Nat) (w : World) (e : Ending) (w' : World) : Prop :=
  w' = w ∧ ((szC t b ≠ 0 ∧ e = .returned (.tuple #[.int .u64 0, .int .u8 (szC t b)])) ∨ (szC t b = 0 ∧ 1 ≤ t ∧ t ≤ 7 ∧ szQ t b ≤ 47 ∧ (t = 1 → 4 ≤ szQ t b) ∧ e = .returned (.tuple #[.int .u64 ((2 ^ szQ t b : Nat) : Int), .int .u8 0])))
set_option maxHeartbeats 800000 in
theorem SizeOf_x {w : World} (hK : Kd w) {t b : Nat} (ht : t < 256) (hb : b < 256) :
    Calls Tryz.prog 15 #[.int .u8 (t : Int), .int .u8 (b : Int)] w (SzX t b w) := by
  by_cases h0 : t = 0
  · subst h0
    go_enter Tryz.func15, Tryz.ntmps15
    go_wp2_with fail
    exact bodyPost_ret (v := .tuple #[.int .u64 0, .int .u8 4]) (by simp [results, Tryz.results15]) rfl ⟨rfl, Or.inl (by rw [show szC _ _ = 4 from if_pos (by omega)]; exact ⟨by decide, rfl⟩)⟩
  · have k0 : ((t : Int) == 0) = false := by rw [beq_eq_false_iff_ne]; omega
    by_cases h8 : 8 ≤ t
    · have c1 : (t : Int) ≥ 8 := by omega
      go_enter Tryz.func15, Tryz.ntmps15
      go_wp2_with fail
      exact bodyPost_ret (v := .tuple #[.int .u64 0, .int .u8 4]) (by simp [results, Tryz.results15]) rfl ⟨rfl, Or.inl (by rw [show szC _ _ = 4 from if_pos (by omega)]; exact ⟨by decide, rfl⟩)⟩
    · have c1 : ¬ (t : Int) ≥ 8 := by omega
      by_cases h1 : t = 1
      · subst h1
        by_cases b1 : b < 4
        · have c2 : (b : Int) < 4 := by omega
          have HZ : Hid (szC 1 b = 5) := by show szC 1 b = 5; unfold szC; rw [if_neg (by omega), if_pos rfl, if_pos (by omega)]
          go_enter Tryz.func15, Tryz.ntmps15
          go_wp2_with fail
          exact bodyPost_ret (v := .tuple #[.int .u64 0, .int .u8 5]) (by simp [results, Tryz.results15]) rfl ⟨rfl, Or.inl (by rw [HZ.out]; exact ⟨by decide, rfl⟩)⟩
        · have c2 : ¬ (b : Int) < 4 := by omega
          by_cases b2 : 47 < b
          · have c3 : (b : Int) > 47 := by omega
            have HZ : Hid (szC 1 b = 5) := by show szC 1 b = 5; unfold szC; rw [if_neg (by omega), if_pos rfl, if_pos (by omega)]
            go_enter Tryz.func15, Tryz.ntmps15
            go_wp2_with fail
            exact bodyPost_ret (v := .tuple #[.int .u64 0, .int .u8 5]) (by simp [results, Tryz.results15]) rfl ⟨rfl, Or.inl (by rw [HZ.out]; exact ⟨by decide, rfl⟩)⟩
          · have c3 : ¬ (b : Int) > 47 := by omega
            have HS := hideIt (shl64 b (by omega))
            have HZ : Hid (szC 1 b = 0) := by show szC 1 b = 0; unfold szC; rw [if_neg (by omega), if_pos rfl, if_neg (by omega)]
            go_enter Tryz.func15, Tryz.ntmps15
            go_wp2_with fail
            rw [HS.out]
            exact bodyPost_ret (v := .tuple #[.int .u64 ((2 ^ b : Nat) : Int), .int .u8 0]) (by simp [results, Tryz.results15]) rfl ⟨rfl, Or.inr ⟨HZ.out, by omega, by omega, by show (if 1 = 1 then b else _) ≤ 47; rw [if_pos rfl]; omega, fun _ => by show 4 ≤ (if 1 = 1 then b else _); rw [if_pos rfl]; omega, rfl⟩⟩
      · have k1 : ((t : Int) == 1) = false := by rw [beq_eq_false_iff_ne]; omega
        by_cases b0 : b = 0
        · subst b0
          obtain ⟨_, h2, _⟩ := hK t (by omega)
          have l1 : (t : Int) < 8 := by omega
          have HQ := hideIt (kBits_le t)
          have lq : (0 : Int) ≤ (kBits t : Int) := by omega
          have HS := hideIt (shl64 (kBits t) (by have := kBits_le t; omega))
          have HZ : Hid (szC t 0 = 0) := by show szC t 0 = 0; unfold szC; rw [if_neg (by omega), if_neg h1, if_neg (by simp)]
          have HSQ : Hid (szQ t 0 = kBits t) := by show szQ t 0 = _; unfold szQ; rw [if_neg h1]
          generalize hq : kBits t = q at *
          have HE := hideIt hq
          clear hq
          go_enter Tryz.func15, Tryz.ntmps15
          go_wp2_with fail
          rw [Nat.min_eq_left (by have := HQ.out; omega), HS.out]
          exact bodyPost_ret (v := .tuple #[.int .u64 ((2 ^ q : Nat) : Int), .int .u8 0]) (by simp [results, Tryz.results15]) rfl ⟨rfl, Or.inr ⟨HZ.out, by omega, by omega, by rw [HSQ.out]; exact HQ.out, fun q => absurd q h1, by rw [HSQ.out]⟩⟩
        · have k2 : ((b : Int) != 0) = true := by rw [bne_iff_ne]; omega
          have HZ : Hid (szC t b = 5) := by show szC t b = 5; unfold szC; rw [if_neg (by omega), if_neg h1, if_pos b0]
          go_enter Tryz.func15, Tryz.ntmps15
          go_wp2_with fail
          exact bodyPost_ret (v := .tuple #[.int .u64 0, .int .u8 5]) (by simp [results, Tryz.results15]) rfl ⟨rfl, Or.inl (by rw [HZ.out]; exact ⟨by decide, rfl⟩)⟩
/-- Low bits cut off. -/
theorem cut_low (a q : Nat) (ha : a < 2 ^ 64) (hq : q ≤ 64) : a &&& (2 ^ 64 - 2 ^ q) = a / 2 ^ q * 2 ^ q := by
  apply Nat.eq_of_testBit_eq
  intro i
  have e : 2 ^ 64 - 2 ^ q = (2 ^ (64 - q) - 1) * 2 ^ q := by
    rw [Nat.sub_mul, ← Nat.pow_add, show 64 - q + q = 64 by omega]
    omega
  rw [Nat.testBit_and, e, Nat.testBit_mul_two_pow, Nat.testBit_mul_two_pow, Nat.testBit_two_pow_sub_one, Nat.testBit_div_two_pow]
  by_cases h : q ≤ i
  · rw [show i - q + q = i by omega]
    by_cases h2 : i < 64
    · have : i - q < 64 - q := by omega
      simp [h, this]
    · have : a.testBit i = false := Nat.testBit_lt_two_pow (Nat.lt_of_lt_of_le ha (Nat.pow_le_pow_right (by decide) (by omega)))
      simp [this]
  · simp [h]
/-- The first multiple of z from x on. -/
def alU (x z : Nat) : Nat := (x + z - 1) / z * z
theorem alignUp_x (x q : Nat) (hx : x ≤ 281474976710656) (hq : q ≤ 47) (w : World) :
    Calls Tryz.prog 239 #[.int .u64 (x : Int), .int .u64 ((2 ^ q : Nat) : Int)] w fun e w' => e = .returned (.int .u64 ((alU x (2 ^ q) : Nat) : Int)) ∧ w' = w := by
  have z1 : 1 ≤ 2 ^ q := Nat.one_le_two_pow
  have z2 : 2 ^ q ≤ 2 ^ 47 := Nat.pow_le_pow_right (by decide) hq
  rw [show (2 : Nat) ^ 47 = 140737488355328 from rfl] at z2
  have HE : Hid (Go.bits .andNot .u64 ((x : Int) + ((2 ^ q : Nat) : Int) - 1) (((2 ^ q : Nat) : Int) - 1) = ((alU x (2 ^ q) : Nat) : Int)) := by
    show Go.bits .andNot .u64 ((x : Int) + ((2 ^ q : Nat) : Int) - 1) (((2 ^ q : Nat) : Int) - 1) = _
    rw [show (x : Int) + ((2 ^ q : Nat) : Int) - 1 = ((x + 2 ^ q - 1 : Nat) : Int) by omega, show ((2 ^ q : Nat) : Int) - 1 = ((2 ^ q - 1 : Nat) : Int) by omega, andNot_nat _ _ (by omega) (by omega), show 2 ^ q - 1 + 1 = 2 ^ q by omega, cut_low _ _ (by omega) (by omega)]
    rfl
  generalize alU x (2 ^ q) = r at *
  generalize 2 ^ q = z at *
  have w1 : IntKind.u64.wrap ((x : Int) + (z : Int)) = (x : Int) + (z : Int) := u64_same (by omega) (by omega)
  have w2 : IntKind.u64.wrap ((x : Int) + (z : Int) - 1) = (x : Int) + (z : Int) - 1 := u64_same (by omega) (by omega)
  have w3 : IntKind.u64.wrap ((z : Int) - 1) = (z : Int) - 1 := u64_same (by omega) (by omega)
  go_enter Tryz.func239, Tryz.ntmps239
  go_wp2_with fail
  go_ret
  exact ⟨by rw [HE.out]; rfl, rfl⟩
theorem alU_facts {x z : Nat} (hz : 0 < z) : x ≤ alU x z ∧ alU x z < x + z ∧ alU x z % z = 0 := by
  unfold alU
  have h1 := Nat.div_add_mod (x + z - 1) z
  have h2 := Nat.mod_lt (x + z - 1) hz
  rw [Nat.mul_comm] at h1
  refine ⟨by omega, by omega, Nat.mul_mod_left _ _⟩
end Go.Proofs.Qxb6500847aGreatDoor.Os
