/-
  Kinds: SizeOf, TypeName, indexRange, alignUp, freeEntries.
-/
import Derived.Test.Qxb6500847aGreatDoorOsI
namespace Go.Proofs.Qxb6500847aGreatDoor.Os
open Go.RowKit FloorA
set_option maxRecDepth 100000
def kBits : Nat → Nat
  | 2 => 9
  | 3 => 10
  | 4 => 4
  | 5 => 5
  | 6 => 4
  | 7 => 4
  | _ => 0
def kFlds : Nat → Nat
  | 2 => 112
  | 3 => 18
  | 4 => 3
  | 5 => 4
  | 6 => 2
  | 7 => 4
  | _ => 0
/-- The table of kinds lies in memory. -/
def Kd (w : World) : Prop := ∀ t, t < 8 → (∃ n, n.size ≤ 100 ∧ w.cell? ⟨1, t * 4, none⟩ = some (.string n)) ∧ w.cell? ⟨1, t * 4 + 1, none⟩ = some (.int .u8 (kBits t : Int)) ∧ w.cell? ⟨1, t * 4 + 3, none⟩ = some (.int .i64 (kFlds t : Int))
theorem Kd.below {w w' : World} {B : Nat} (h : Kd w) (k : Below B w w') (hB : 1 < B) : Kd w' := fun t ht => by
  obtain ⟨⟨n, hn, h1⟩, h2, h3⟩ := h t ht
  exact ⟨⟨n, hn, (k.cell (p := ⟨1, t * 4, none⟩) hB).trans h1⟩, (k.cell (p := ⟨1, t * 4 + 1, none⟩) hB).trans h2, (k.cell (p := ⟨1, t * 4 + 3, none⟩) hB).trans h3⟩
theorem kBits_le (t : Nat) : kBits t ≤ 47 := by unfold kBits; split <;> omega
theorem shl64 (k : Nat) (hk : k < 64) : IntKind.u64.wrap (2 ^ k) = ((2 ^ k : Nat) : Int) := shl1 k hk
section
variable {A : Nat} {rb sb : Nat → Nat} {s : Av} {tl : Nat → List Int} {ws : Nat → Nat → Nat → Int} {w : World}
theorem TypeName_walk (hK : Kd w) {t : Nat} (ht : t < 256) :
    Calls Tryz.prog 133 #[.int .u8 (t : Int)] w fun e w' => (∃ n, n.size ≤ 100 ∧ e = .returned (.string n)) ∧ w' = w := by
  by_cases h : t < 8
  · obtain ⟨⟨n, hn, h1⟩, _, _⟩ := hK t h
    have c1 : (t : Int) < 8 := by omega
    go_enter Tryz.func133, Tryz.ntmps133
    go_wp2_with fail
    go_ret
    exact ⟨⟨n, hn, rfl⟩, rfl⟩
  · have c1 : ¬ (t : Int) < 8 := by omega
    go_enter Tryz.func133, Tryz.ntmps133
    go_wp2_with fail
    go_ret
    exact ⟨⟨_, by decide, rfl⟩, rfl⟩
def SzPost (t : Nat) (w : World) (e : Ending) (w' : World) : Prop :=
  w' = w ∧ ((∃ c : Int, c ≠ 0 ∧ e = .returned (.tuple #[.int .u64 0, .int .u8 c])) ∨ (1 ≤ t ∧ t ≤ 7 ∧ ∃ q : Nat, q ≤ 47 ∧ (t ≠ 1 → q = kBits t) ∧ e = .returned (.tuple #[.int .u64 ((2 ^ q : Nat) : Int), .int .u8 0])))
set_option maxHeartbeats 800000 in
theorem SizeOf_walk (hK : Kd w) {t b : Nat} (ht : t < 256) (hb : b < 256) :
    Calls Tryz.prog 15 #[.int .u8 (t : Int), .int .u8 (b : Int)] w (SzPost t w) := by
  by_cases h0 : t = 0
  · subst h0
    go_enter Tryz.func15, Tryz.ntmps15
    go_wp2_with fail
    exact bodyPost_ret (by simp [results, Tryz.results15]) rfl ⟨rfl, Or.inl ⟨4, by omega, rfl⟩⟩
  · have k0 : ((t : Int) == 0) = false := by rw [beq_eq_false_iff_ne]; omega
    by_cases h8 : 8 ≤ t
    · have c1 : (t : Int) ≥ 8 := by omega
      go_enter Tryz.func15, Tryz.ntmps15
      go_wp2_with fail
      exact bodyPost_ret (by simp [results, Tryz.results15]) rfl ⟨rfl, Or.inl ⟨4, by omega, rfl⟩⟩
    · have c1 : ¬ (t : Int) ≥ 8 := by omega
      by_cases h1 : t = 1
      · subst h1
        by_cases b1 : b < 4
        · have c2 : (b : Int) < 4 := by omega
          go_enter Tryz.func15, Tryz.ntmps15
          go_wp2_with fail
          exact bodyPost_ret (by simp [results, Tryz.results15]) rfl ⟨rfl, Or.inl ⟨5, by omega, rfl⟩⟩
        · have c2 : ¬ (b : Int) < 4 := by omega
          by_cases b2 : 47 < b
          · have c3 : (b : Int) > 47 := by omega
            go_enter Tryz.func15, Tryz.ntmps15
            go_wp2_with fail
            exact bodyPost_ret (by simp [results, Tryz.results15]) rfl ⟨rfl, Or.inl ⟨5, by omega, rfl⟩⟩
          · have c3 : ¬ (b : Int) > 47 := by omega
            have HS := hideIt (shl64 b (by omega))
            go_enter Tryz.func15, Tryz.ntmps15
            go_wp2_with fail
            rw [HS.out]
            exact bodyPost_ret (by simp [results, Tryz.results15]) rfl ⟨rfl, Or.inr ⟨by omega, by omega, b, by omega, fun q => absurd rfl q, rfl⟩⟩
      · have k1 : ((t : Int) == 1) = false := by rw [beq_eq_false_iff_ne]; omega
        by_cases b0 : b = 0
        · subst b0
          obtain ⟨_, h2, _⟩ := hK t (by omega)
          have l1 : (t : Int) < 8 := by omega
          have HQ := hideIt (kBits_le t)
          have lq : (0 : Int) ≤ (kBits t : Int) := by omega
          have HS := hideIt (shl64 (kBits t) (by have := kBits_le t; omega))
          have HT : Hid (t = t) := rfl
          generalize hq : kBits t = q at *
          have HE := hideIt hq
          clear hq
          go_enter Tryz.func15, Tryz.ntmps15
          go_wp2_with fail
          rw [Nat.min_eq_left (by have := HQ.out; omega), HS.out]
          exact bodyPost_ret (by simp [results, Tryz.results15]) rfl ⟨rfl, Or.inr ⟨by omega, by omega, q, HQ.out, fun _ => HE.out.symm, rfl⟩⟩
        · have k2 : ((b : Int) != 0) = true := by rw [bne_iff_ne]; omega
          go_enter Tryz.func15, Tryz.ntmps15
          go_wp2_with fail
          exact bodyPost_ret (by simp [results, Tryz.results15]) rfl ⟨rfl, Or.inl ⟨5, by omega, rfl⟩⟩
theorem indexRange_walk (t : Nat) (w : World) :
    Calls Tryz.prog 134 #[.int .u8 (t : Int)] w fun e w' => e = .returned (.tuple #[.int .u16 (if t = 1 then 256 else 0), .int .u16 (if t = 1 then 320 else 256)]) ∧ w' = w := by
  by_cases h : t = 1
  · subst h
    go_enter Tryz.func134, Tryz.ntmps134
    go_wp2_with fail
    exact bodyPost_ret (by simp [results, Tryz.results134]) rfl ⟨rfl, rfl⟩
  · have k1 : ((t : Int) == 1) = false := by rw [beq_eq_false_iff_ne]; omega
    rw [if_neg h, if_neg h]
    go_enter Tryz.func134, Tryz.ntmps134
    go_wp2_with fail
    exact bodyPost_ret (by simp [results, Tryz.results134]) rfl ⟨rfl, rfl⟩
theorem bits_u64 (o : Go.BinOp) (x y : Int) : 0 ≤ Go.bits o .u64 x y ∧ Go.bits o .u64 x y < 18446744073709551616 := by
  unfold Go.bits
  dsimp only
  generalize (BitVec.toNat _ : Nat) = z
  simp [IntKind.wrap, IntKind.bits, IntKind.signed]
  omega
theorem alignUp_walk (x y : Int) (w : World) :
    Calls Tryz.prog 239 #[.int .u64 x, .int .u64 y] w fun e w' => (∃ z : Int, 0 ≤ z ∧ z < 18446744073709551616 ∧ e = .returned (.int .u64 z)) ∧ w' = w := by
  go_enter Tryz.func239, Tryz.ntmps239
  go_wp2_with fail
  go_ret
  exact ⟨⟨_, (bits_u64 _ _ _).1, (bits_u64 _ _ _).2, rfl⟩, rfl⟩
theorem freeEntries_walk (hA : Am w A s) (hw : Wd s) (t : Nat) :
    Calls Tryz.prog 131 #[.pointer (some ⟨A, 0, none⟩), .int .u8 (t : Int)] w fun e w' => e = .returned (.int .i64 (if t = 1 then (cnI s 256 320 : Int) else cnI s 0 256)) ∧ w' = w := by
  have HC : Hid (Calls Tryz.prog 48 #[.pointer (some ⟨A, 2560, none⟩), .int .u16 256, .int .u16 320] w fun e w' => e = .returned (.int .i64 (cnI s 256 320 : Int)) ∧ w' = w) := count_walk hA hw (a := 4) (b := 5) (by omega) (by omega)
  have HC2 : Hid (Calls Tryz.prog 48 #[.pointer (some ⟨A, 2560, none⟩), .int .u16 0, .int .u16 256] w fun e w' => e = .returned (.int .i64 (cnI s 0 256 : Int)) ∧ w' = w) := count_walk hA hw (a := 0) (b := 4) (by omega) (by omega)
  have HI := hideIt (indexRange_walk t w)
  clear hA hw
  by_cases h : t = 1
  · rw [if_pos h]
    subst h
    have HI2 : Hid (Calls Tryz.prog 134 #[.int .u8 1] w fun e w' => e = .returned (.tuple #[.int .u16 256, .int .u16 320]) ∧ w' = w) := HI.out
    clear HI
    generalize cnI s 256 320 = q at *
    go_enter Tryz.func131, Tryz.ntmps131
    go_wp2_with (first | (go_at_call 134; refine HI2.out.mono ?_; rintro e w' ⟨rfl, hw'⟩; obtain rfl := hw'.symm) | (go_at_call 48; refine HC.out.mono ?_; rintro e w' ⟨rfl, hw'⟩; obtain rfl := hw'.symm))
    go_ret
    exact ⟨rfl, rfl⟩
  · rw [if_neg h]
    have HI2 : Hid (Calls Tryz.prog 134 #[.int .u8 (t : Int)] w fun e w' => e = .returned (.tuple #[.int .u16 0, .int .u16 256]) ∧ w' = w) := by
      have := HI.out
      rw [if_neg h, if_neg h] at this
      exact this
    clear HI
    generalize cnI s 0 256 = q at *
    go_enter Tryz.func131, Tryz.ntmps131
    go_wp2_with (first | (go_at_call 134; refine HI2.out.mono ?_; rintro e w' ⟨rfl, hw'⟩; obtain rfl := hw'.symm) | (go_at_call 48; refine HC2.out.mono ?_; rintro e w' ⟨rfl, hw'⟩; obtain rfl := hw'.symm))
    go_ret
    exact ⟨rfl, rfl⟩
end
end Go.Proofs.Qxb6500847aGreatDoor.Os
