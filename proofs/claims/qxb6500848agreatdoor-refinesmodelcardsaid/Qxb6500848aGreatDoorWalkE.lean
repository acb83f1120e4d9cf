/-
  The walk of a class's membership test.
-/
import Derived.Test.Qxb6500848aGreatDoorPlain3
namespace Go.Proofs.Qxb6500848aGreatDoor
open Go.RowKit Pl
set_option maxRecDepth 100000

theorem and_one (y : Nat) (hy : y < 2 ^ 64) : Go.bits .and .u64 (y : Int) 1 = ((y % 2 : Nat) : Int) := by
  have e : Go.bits .and .u64 (y : Int) 1 = IntKind.u64.wrap (((BitVec.ofInt 64 (y : Int)).toNat &&& 1 : Nat) : Int) := by
    show IntKind.u64.wrap ((BitVec.ofInt 64 (y : Int) &&& BitVec.ofInt 64 1).toNat : Int) = _
    rw [BitVec.toNat_and]
    rfl
  rw [e, BitVec.ofInt_natCast, BitVec.toNat_ofNat, Nat.mod_eq_of_lt hy, Nat.and_one_is_mod]
  have h2 : y % 2 < 2 := Nat.mod_lt _ (by decide)
  generalize y % 2 = r at *
  simp [IntKind.wrap, IntKind.bits, IntKind.signed]; omega

theorem bit_test (x : Nat) (hx : x < 2 ^ 64) (m : Nat) : (Go.bits .and .u64 ((x : Int) / 2 ^ m) 1 == 1) = x.testBit m := by
  have e : ((x : Int) / 2 ^ m) = ((x / 2 ^ m : Nat) : Int) := by norm_cast
  rw [e, and_one _ (Nat.lt_of_le_of_lt (Nat.div_le_self _ _) hx), Nat.testBit_eq_decide_div_mod_eq]
  by_cases h : x / 2 ^ m % 2 = 1
  · simp [h]
  · have : x / 2 ^ m % 2 = 0 := by omega
    simp [this]

set_option maxHeartbeats 1000000 in
theorem sethas_walk {X : Nat → Prop} {w : World} {sv : Value} {bits : List Nat} (h : Words X w sv bits) (hl : bits.length = 3072) (hb : ∀ b ∈ bits, b < 2 ^ 64) (c : Int) :
    Calls Tryz.prog 21 #[sv, .int .i64 c] w fun e w' => e = .returned (.bool (hasC bits c)) ∧ w' = w := by
  obtain ⟨ad, cap, rfl, _, _, h3⟩ := h
  obtain ⟨g, o, rfl, _, hc⟩ := h3 (fun e => by rw [e] at hl; cases hl)
  rw [hl]
  by_cases h0 : 0 ≤ c
  · by_cases h1 : c ≤ 196607
    · have hi : (c / 64).toNat < bits.length := by omega
      have hcell := hc (c / 64).toNat hi
      have hd : c.tdiv 64 = c / 64 := Int.tdiv_eq_ediv_of_nonneg h0
      have hm : c.tmod 64 = c % 64 := Int.tmod_eq_emod_of_nonneg h0
      have q0 : 0 ≤ c / 64 := by omega
      have q1 : c / 64 < 3072 := by omega
      have m0 : 0 ≤ c % 64 := by omega
      have m1 : c % 64 < 64 := by omega
      have hbb := hb _ (List.getElem_mem hi)
      have HX : Hid (hasC bits c = (bits[(c / 64).toNat]).testBit (c % 64).toNat) := by
        show hasC bits c = _
        unfold hasC
        rw [show c.toNat / 64 = (c / 64).toNat by omega, show c.toNat % 64 = (c % 64).toNat by omega, getD_lt hi]
        simp [h0, h1]
      generalize bits[(c / 64).toNat] = x at *
      clear hc h3
      go_enter Tryz.func21, Tryz.ntmps21
      go_wp2
      go_ret
      exact ⟨ret_bool (by rw [HX.out]; exact bit_test x hbb _), rfl⟩
    · have h1' : 196607 < c := by omega
      go_enter Tryz.func21, Tryz.ntmps21
      go_wp2
      go_ret
      exact ⟨ret_bool (by unfold hasC; rw [decide_eq_false (by omega : ¬ c ≤ 196607)]; simp), rfl⟩
  · have h0' : c < 0 := by omega
    go_enter Tryz.func21, Tryz.ntmps21
    go_wp2
    go_ret
    exact ⟨ret_bool (by unfold hasC; rw [decide_eq_false (by omega : ¬ 0 ≤ c)]; simp), rfl⟩
end Go.Proofs.Qxb6500848aGreatDoor
