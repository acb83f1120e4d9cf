/-
  OnesCount64 and TrailingZeros64 (turned from the seat b6500848aZD).
-/
import Derived.Test.Qxb6500847aGreatDoorOsC
namespace Go.Proofs.Qxb6500847aGreatDoor.Os
open Go.RowKit FloorA
set_option maxRecDepth 100000
def popc (n : Nat) : Nat := (List.range 64).countP fun i => n.testBit i
def pc (n x : Nat) : Nat := (List.range n).countP fun i => x.testBit i

theorem tb (y z : Nat) (hy : y < 256) (j : Nat) : (y + 256 * z).testBit j = if j < 8 then y.testBit j else z.testBit (j - 8) := by
  have := Nat.testBit_two_pow_mul_add z (i := 8) (b := y) (by simpa using hy) j
  rw [← this]
  congr 1
  omega

theorem pc_split (n y z : Nat) (hy : y < 256) : pc (8 + n) (y + 256 * z) = pc 8 y + pc n z := by
  unfold pc
  rw [List.range_add, List.countP_append, List.countP_map]
  congr 1
  · apply List.countP_congr
    intro i hi
    have : i < 8 := by simpa using hi
    simp [tb y z hy, this]
  · apply List.countP_congr
    intro i hi
    have : ¬ 8 + i < 8 := by omega
    simp [tb y z hy, this]

theorem and_split (y z m M : Nat) (hy : y < 256) (hm : m < 256) : (y + 256 * z) &&& (m + 256 * M) = (y &&& m) + 256 * (z &&& M) := by
  have h : y &&& m < 256 := Nat.and_lt_two_pow (n := 8) y hm
  apply Nat.eq_of_testBit_eq
  intro j
  rw [Nat.testBit_and, tb y z hy, tb m M hm, tb _ _ h]
  split <;> simp [Nat.testBit_and]

theorem shr_split (y z m M k : Nat) (hk : k ≤ 8) (hy : y < 256) (hm : m < 2 ^ (8 - k)) : ((y + 256 * z) >>> k) &&& (m + 256 * M) = ((y >>> k) &&& m) + 256 * ((z >>> k) &&& M) := by
  have hm' : m < 256 := Nat.lt_of_lt_of_le hm (by
    calc 2 ^ (8 - k) ≤ 2 ^ 8 := Nat.pow_le_pow_right (by decide) (by omega)
      _ = 256 := by decide)
  have h : (y >>> k) &&& m < 256 := Nat.and_lt_two_pow (n := 8) _ hm'
  apply Nat.eq_of_testBit_eq
  intro j
  rw [Nat.testBit_and, Nat.testBit_shiftRight, tb y z hy, tb m M hm', tb _ _ h]
  by_cases hj : j < 8
  · simp only [hj, if_true, Nat.testBit_and, Nat.testBit_shiftRight]
    by_cases hkj : k + j < 8
    · simp [hkj]
    · have : m.testBit j = false := Nat.testBit_lt_two_pow (Nat.lt_of_lt_of_le hm (Nat.pow_le_pow_right (by decide) (by omega)))
      simp [this]
  · have e : ¬ k + j < 8 := by omega
    simp only [hj, e, if_false, Nat.testBit_and, Nat.testBit_shiftRight]
    congr 2
    omega

def s1 (m x : Nat) : Nat := ((x >>> 1) &&& m) + (x &&& m)
def s2 (m x : Nat) : Nat := ((x >>> 2) &&& m) + (x &&& m)
def s3 (m x : Nat) : Nat := ((x >>> 4) + x) &&& m

theorem s1_split (y z M : Nat) (hy : y < 256) : s1 (85 + 256 * M) (y + 256 * z) = s1 85 y + 256 * s1 M z := by
  unfold s1
  rw [shr_split y z 85 M 1 (by decide) hy (by decide), and_split y z 85 M hy (by decide)]
  omega
theorem s2_split (y z M : Nat) (hy : y < 256) : s2 (51 + 256 * M) (y + 256 * z) = s2 51 y + 256 * s2 M z := by
  unfold s2
  rw [shr_split y z 51 M 2 (by decide) hy (by decide), and_split y z 51 M hy (by decide)]
  omega
theorem s3_split (y z M : Nat) (hy : y < 256) (h1 : y % 16 ≤ 4) (h2 : y / 16 ≤ 4) (h3 : z % 16 ≤ 4) : s3 (15 + 256 * M) (y + 256 * z) = s3 15 y + 256 * s3 M z := by
  unfold s3
  have e : ((y + 256 * z) >>> 4) + (y + 256 * z) = ((y >>> 4) + y + 16 * (z % 16)) + 256 * ((z >>> 4) + z) := by
    simp only [Nat.shiftRight_eq_div_pow]
    omega
  rw [e, and_split _ _ _ _ (by simp only [Nat.shiftRight_eq_div_pow]; omega) (by decide)]
  congr 1
  have a : ∀ t, t &&& 15 = t % 16 := fun t => Nat.and_two_pow_sub_one_eq_mod t 4
  rw [a, a]
  omega

theorem byte_ok : ∀ y : Fin 256, s1 85 y.1 < 256 ∧ s2 51 (s1 85 y.1) < 256 ∧ s2 51 (s1 85 y.1) % 16 ≤ 4 ∧ s2 51 (s1 85 y.1) / 16 ≤ 4 ∧ s3 15 (s2 51 (s1 85 y.1)) = pc 8 y.1 ∧ pc 8 y.1 ≤ 8 := by decide +kernel

/-- masks of n bytes -/
def mk (b : Nat) : Nat → Nat
  | 0 => 0
  | n + 1 => b + 256 * mk b n
/-- the sum of the bytes' counts at their places -/
def cs : Nat → Nat → Nat
  | 0, _ => 0
  | n + 1, x => pc 8 (x % 256) + 256 * cs n (x / 256)

theorem low4 (n x : Nat) (hx : x < 256 ^ n) : s2 (mk 51 n) (s1 (mk 85 n) x) % 16 ≤ 4 := by
  cases n with
  | zero => simp [mk, s1, s2]
  | succ n =>
    have hy : x % 256 < 256 := Nat.mod_lt _ (by decide)
    have hb := byte_ok ⟨x % 256, hy⟩
    have e : x = x % 256 + 256 * (x / 256) := by omega
    rw [e]
    simp only [mk]
    rw [s1_split _ _ _ hy, s2_split _ _ _ hb.1]
    have := hb.2.2.1
    simp only at this
    omega

theorem swar (n : Nat) : ∀ x, x < 256 ^ n → s3 (mk 15 n) (s2 (mk 51 n) (s1 (mk 85 n) x)) = cs n x := by
  induction n with
  | zero => intro x hx; simp [mk, s1, s2, s3, cs]
  | succ n ih =>
    intro x hx
    have hy : x % 256 < 256 := Nat.mod_lt _ (by decide)
    have hb := byte_ok ⟨x % 256, hy⟩
    have hq : x / 256 < 256 ^ n := by
      rw [Nat.pow_succ] at hx
      exact Nat.div_lt_of_lt_mul (by omega)
    have e : x = x % 256 + 256 * (x / 256) := by omega
    conv => lhs; rw [e]
    simp only [mk, cs]
    rw [s1_split _ _ _ hy, s2_split _ _ _ hb.1, s3_split _ _ _ hb.2.1 hb.2.2.1 hb.2.2.2.1 (low4 n _ hq), ih _ hq, hb.2.2.2.2.1]

theorem pc_cs (x : Nat) : ∀ n, pc (8 * (n + 1)) x = pc 8 (x % 256) + pc (8 * n) (x / 256) := by
  intro n
  have e : x = x % 256 + 256 * (x / 256) := by omega
  have h := pc_split (8 * n) (x % 256) (x / 256) (Nat.mod_lt _ (by decide))
  rw [← e] at h
  rw [← h]
  congr 1
  omega

/-- the last three steps -/
def tailS (x : Nat) : Nat := let a := x + x >>> 8; let b := a + a >>> 16; (b + b >>> 32) &&& 127

theorem tail_ok (x : Nat) : tailS (cs 8 x) = pc 64 x ∧ cs 8 x < 2 ^ 60 := by
  have h8 : ∀ t, pc 8 (t % 256) ≤ 8 := fun t => (byte_ok ⟨t % 256, Nat.mod_lt _ (by decide)⟩).2.2.2.2.2
  have e0 := pc_cs x 7
  have e1 := pc_cs (x / 256) 6
  have e2 := pc_cs (x / 256 / 256) 5
  have e3 := pc_cs (x / 256 / 256 / 256) 4
  have e4 := pc_cs (x / 256 / 256 / 256 / 256) 3
  have e5 := pc_cs (x / 256 / 256 / 256 / 256 / 256) 2
  have e6 := pc_cs (x / 256 / 256 / 256 / 256 / 256 / 256) 1
  have e7 := pc_cs (x / 256 / 256 / 256 / 256 / 256 / 256 / 256) 0
  have e8 : pc (8 * 0) (x / 256 / 256 / 256 / 256 / 256 / 256 / 256 / 256) = 0 := rfl
  have h0 := h8 x
  have h1 := h8 (x / 256)
  have h2 := h8 (x / 256 / 256)
  have h3 := h8 (x / 256 / 256 / 256)
  have h4 := h8 (x / 256 / 256 / 256 / 256)
  have h5 := h8 (x / 256 / 256 / 256 / 256 / 256)
  have h6 := h8 (x / 256 / 256 / 256 / 256 / 256 / 256)
  have h7 := h8 (x / 256 / 256 / 256 / 256 / 256 / 256 / 256)
  simp only [Nat.reduceMul, Nat.reduceAdd] at e0 e1 e2 e3 e4 e5 e6 e7 e8
  unfold tailS
  have a : ∀ t, t &&& 127 = t % 128 := fun t => Nat.and_two_pow_sub_one_eq_mod t 7
  simp only [cs, a, Nat.shiftRight_eq_div_pow]
  generalize pc 8 (x % 256) = p0 at *
  generalize pc 8 (x / 256 % 256) = p1 at *
  generalize pc 8 (x / 256 / 256 % 256) = p2 at *
  generalize pc 8 (x / 256 / 256 / 256 % 256) = p3 at *
  generalize pc 8 (x / 256 / 256 / 256 / 256 % 256) = p4 at *
  generalize pc 8 (x / 256 / 256 / 256 / 256 / 256 % 256) = p5 at *
  generalize pc 8 (x / 256 / 256 / 256 / 256 / 256 / 256 % 256) = p6 at *
  generalize pc 8 (x / 256 / 256 / 256 / 256 / 256 / 256 / 256 % 256) = p7 at *
  rw [e0, e1, e2, e3, e4, e5, e6, e7, e8]
  clear e0 e1 e2 e3 e4 e5 e6 e7 e8
  have dv : ∀ (B p Y : Nat), p < B → (p + B * Y) / B = Y := fun B p Y h => by
    rw [Nat.add_mul_div_left _ _ (by omega), Nat.div_eq_of_lt h, Nat.zero_add]
  have bd : ∀ (p Y M : Nat), p < 256 → Y < M → p + 256 * Y < 256 * M := fun p Y M h1 h2 => by omega
  constructor
  · rw [show (2 : Nat) ^ 8 = 256 from rfl, dv 256 p0 _ (by omega)]
    have q2 : ∀ a b c d e f g h : Nat, (a + 256 * (b + 256 * (c + 256 * (d + 256 * (e + 256 * (f + 256 * (g + 256 * (h + 256 * 0)))))))) + (b + 256 * (c + 256 * (d + 256 * (e + 256 * (f + 256 * (g + 256 * (h + 256 * 0))))))) = ((a + b) + 256 * (b + c)) + 65536 * (((c + d) + 256 * (d + e)) + 65536 * ((e + f) + 256 * (f + g) + 65536 * ((g + h) + 256 * h))) := by
      intro a b c d e f g h; omega
    rw [q2, show (2 : Nat) ^ 16 = 65536 from rfl, dv 65536 _ _ (by omega)]
    have q4 : ∀ u v x y : Nat, (u + 65536 * (v + 65536 * (x + 65536 * y))) + (v + 65536 * (x + 65536 * y)) = ((u + v) + 65536 * (v + x)) + 4294967296 * ((x + y) + 65536 * y) := by
      intro u v x y; omega
    rw [q4, show (2 : Nat) ^ 32 = 4294967296 from rfl, dv 4294967296 _ _ (by omega)]
    have q6 : ∀ u v x y a b c d e f g h : Nat, u = (a + b) + 256 * (b + c) → v = ((c + d) + 256 * (d + e)) → x = (e + f) + 256 * (f + g) → y = (g + h) + 256 * h →
        ((u + v) + 65536 * (v + x)) + 4294967296 * ((x + y) + 65536 * y) + ((x + y) + 65536 * y) = (a + (b + (c + (d + (e + (f + (g + (h + 0)))))))) + 128 * (2 * (b + c + d + e + f + g + h) + 512 * (v + x) + 33554432 * ((x + y) + 65536 * y) + 512 * y) := by
      intro u v x y a b c d e f g h e1 e2 e3 e4
      omega
    rw [q6 _ _ _ _ p0 p1 p2 p3 p4 p5 p6 p7 rfl rfl rfl rfl, Nat.add_mul_mod_self_left, Nat.mod_eq_of_lt (by omega)]
  · have b7 : p7 + 256 * 0 < 16 := by omega
    have b6 := bd p6 _ _ (by omega) b7
    have b5 := bd p5 _ _ (by omega) b6
    have b4 := bd p4 _ _ (by omega) b5
    have b3 := bd p3 _ _ (by omega) b4
    have b2 := bd p2 _ _ (by omega) b3
    have b1 := bd p1 _ _ (by omega) b2
    have b0 := bd p0 _ _ (by omega) b1
    exact Nat.lt_of_lt_of_le b0 (by decide)

theorem popc_swar (x : Nat) (hx : x < 2 ^ 64) : tailS (s3 1085102592571150095 (s2 3689348814741910323 (s1 6148914691236517205 x))) = popc x ∧ s3 1085102592571150095 (s2 3689348814741910323 (s1 6148914691236517205 x)) < 2 ^ 60 := by
  have h := swar 8 x (by simpa using hx)
  have e1 : mk 85 8 = 6148914691236517205 := by decide
  have e2 : mk 51 8 = 3689348814741910323 := by decide
  have e3 : mk 15 8 = 1085102592571150095 := by decide
  rw [e1, e2, e3] at h
  rw [h]
  exact tail_ok x
theorem and_nat (a b : Nat) (ha : a < 2 ^ 64) (hb : b < 2 ^ 64) : Go.bits .and .u64 (a : Int) (b : Int) = ((a &&& b : Nat) : Int) := by
  have e : Go.bits .and .u64 (a : Int) (b : Int) = IntKind.u64.wrap (((BitVec.ofInt 64 (a : Int)).toNat &&& (BitVec.ofInt 64 (b : Int)).toNat : Nat) : Int) := by
    show IntKind.u64.wrap ((BitVec.ofInt 64 (a : Int) &&& BitVec.ofInt 64 (b : Int)).toNat : Int) = _
    rw [BitVec.toNat_and]
  rw [e, BitVec.ofInt_natCast, BitVec.toNat_ofNat, Nat.mod_eq_of_lt ha, BitVec.ofInt_natCast, BitVec.toNat_ofNat, Nat.mod_eq_of_lt hb]
  have h2 : a &&& b < 2 ^ 64 := Nat.and_lt_two_pow a hb
  generalize a &&& b = r at *
  simp [IntKind.wrap, IntKind.bits, IntKind.signed]; omega

theorem and_low (a : Nat) (ha : a < 2 ^ 63) : Go.bits .and .i64 (a : Int) 127 = ((a &&& 127 : Nat) : Int) := by
  have e : Go.bits .and .i64 (a : Int) 127 = IntKind.i64.wrap (((BitVec.ofInt 64 (a : Int)).toNat &&& 127 : Nat) : Int) := by
    show IntKind.i64.wrap ((BitVec.ofInt 64 (a : Int) &&& BitVec.ofInt 64 127).toNat : Int) = _
    rw [BitVec.toNat_and]
    rfl
  rw [e, BitVec.ofInt_natCast, BitVec.toNat_ofNat, Nat.mod_eq_of_lt (by omega)]
  have h2 : a &&& 127 < 2 ^ 7 := Nat.and_lt_two_pow a (by decide)
  generalize a &&& 127 = r at *
  simp [IntKind.wrap, IntKind.bits, IntKind.signed]; omega

theorem and_le_right (a m : Nat) : a &&& m ≤ m := Nat.and_le_right

theorem nat_div (a k : Nat) : ((a / k : Nat) : Int) = (a : Int) / (k : Int) := Int.natCast_ediv a k

set_option maxHeartbeats 1000000 in
theorem ones_walk (x : Nat) (hx : x < 2 ^ 64) (w : World) : Calls Tryz.prog 125 #[.int .u64 x] w fun e w' => e = .returned (.int .i64 (popc x)) ∧ w' = w := by
  obtain ⟨h1, h2⟩ := popc_swar x hx
  unfold s1 s2 s3 tailS at h1
  unfold s1 s2 s3 at h2
  simp only [Nat.shiftRight_eq_div_pow] at h1 h2
  have f1 : Go.bits .and .u64 ((x : Int) / 2) 6148914691236517205 = ((x / 2 ^ 1 &&& 6148914691236517205 : Nat) : Int) := by
    have h := and_nat (x / 2 ^ 1) 6148914691236517205 (Nat.lt_of_le_of_lt (Nat.div_le_self _ _) hx) (by decide)
    have e : ((x / 2 ^ 1 : Nat) : Int) = (x : Int) / 2 := by simp
    rw [e, show ((6148914691236517205 : Nat) : Int) = 6148914691236517205 from rfl] at h
    exact h
  have f2 : Go.bits .and .u64 (x : Int) 6148914691236517205 = ((x &&& 6148914691236517205 : Nat) : Int) := by
    have h := and_nat x 6148914691236517205 hx (by decide)
    rw [show ((6148914691236517205 : Nat) : Int) = 6148914691236517205 from rfl] at h
    exact h
  have g1 := and_le_right (x / 2 ^ 1) 6148914691236517205
  have g2 := and_le_right x 6148914691236517205
  generalize x / 2 ^ 1 &&& 6148914691236517205 = a1 at *
  generalize x &&& 6148914691236517205 = a2 at *
  have r1 : ∃ a : Nat, a = a1 + a2 := ⟨_, rfl⟩
  obtain ⟨a, ra⟩ := r1
  rw [← ra] at h1 h2
  have ra' : (a1 : Int) + a2 = (a : Int) := by omega
  have la : a < 2 ^ 64 := by omega
  have f3 : Go.bits .and .u64 ((a : Int) / 4) 3689348814741910323 = ((a / 2 ^ 2 &&& 3689348814741910323 : Nat) : Int) := by
    have h := and_nat (a / 2 ^ 2) 3689348814741910323 (Nat.lt_of_le_of_lt (Nat.div_le_self _ _) la) (by decide)
    have e : ((a / 2 ^ 2 : Nat) : Int) = (a : Int) / 4 := by simp
    rw [e, show ((3689348814741910323 : Nat) : Int) = 3689348814741910323 from rfl] at h
    exact h
  have f4 : Go.bits .and .u64 (a : Int) 3689348814741910323 = ((a &&& 3689348814741910323 : Nat) : Int) := by
    have h := and_nat a 3689348814741910323 la (by decide)
    rw [show ((3689348814741910323 : Nat) : Int) = 3689348814741910323 from rfl] at h
    exact h
  have g3 := and_le_right (a / 2 ^ 2) 3689348814741910323
  have g4 := and_le_right a 3689348814741910323
  generalize a / 2 ^ 2 &&& 3689348814741910323 = b1 at *
  generalize a &&& 3689348814741910323 = b2 at *
  have r2 : ∃ b : Nat, b = b1 + b2 := ⟨_, rfl⟩
  obtain ⟨b, rb⟩ := r2
  rw [← rb] at h1 h2
  have rb' : (b1 : Int) + b2 = (b : Int) := by omega
  have r3 : ∃ t : Nat, t = b / 2 ^ 4 + b := ⟨_, rfl⟩
  obtain ⟨t, rt⟩ := r3
  rw [← rt] at h1 h2
  have rt' : (b : Int) / 16 + (b : Int) = (t : Int) := by rw [rt]; simp
  have lt : t < 2 ^ 64 := by
    have := Nat.div_le_self b (2 ^ 4)
    omega
  have f5 : Go.bits .and .u64 (t : Int) 1085102592571150095 = ((t &&& 1085102592571150095 : Nat) : Int) := by
    have h := and_nat t 1085102592571150095 lt (by decide)
    rw [show ((1085102592571150095 : Nat) : Int) = 1085102592571150095 from rfl] at h
    exact h
  generalize t &&& 1085102592571150095 = c at *
  have q1 : ∃ d : Nat, d = c + c / 2 ^ 8 := ⟨_, rfl⟩
  obtain ⟨d, rd⟩ := q1
  rw [← rd] at h1
  have rd' : (c : Int) + (c : Int) / 256 = (d : Int) := by rw [rd]; simp
  have ld : d < 2 ^ 61 := by
    have := Nat.div_le_self c (2 ^ 8)
    omega
  have q2 : ∃ f : Nat, f = d + d / 2 ^ 16 := ⟨_, rfl⟩
  obtain ⟨f, rf⟩ := q2
  rw [← rf] at h1
  have rf' : (d : Int) + (d : Int) / 65536 = (f : Int) := by rw [rf]; simp
  have lf : f < 2 ^ 62 := by
    have := Nat.div_le_self d (2 ^ 16)
    omega
  have q3 : ∃ g : Nat, g = f + f / 2 ^ 32 := ⟨_, rfl⟩
  obtain ⟨g, rg⟩ := q3
  rw [← rg] at h1
  have rg' : (f : Int) + (f : Int) / 4294967296 = (g : Int) := by rw [rg]; simp
  have lg : g < 2 ^ 63 := by
    have := Nat.div_le_self f (2 ^ 32)
    omega
  have f6 : Go.bits .and .i64 (g : Int) 127 = ((popc x : Nat) : Int) := by rw [← h1]; exact and_low g lg
  generalize popc x = p at *
  clear h1 ra rb rt rd rf rg
  go_enter Tryz.func125, Tryz.ntmps125
  go_wp2
  go_ret
  exact ⟨rfl, rfl⟩

/-- The table of math/bits. -/
def Gd (tab : Nat → Int) (w : World) : Prop := ∀ j, j < 64 → w.cell? ⟨3, j, none⟩ = some (.int .u8 (tab j))
theorem Gd.below {tab : Nat → Int} {w w' : World} {B : Nat} (h : Gd tab w) (k : Below B w w') (hB : 3 < B) : Gd tab w' := fun j hj => (k.cell (p := ⟨3, j, none⟩) hB).trans (h j hj)

def tzI (x : Nat) : Int := IntKind.u64.wrap (Go.bits .and .u64 (x : Int) (IntKind.u64.wrap (-(x : Int))) * 285870213051353865) / 288230376151711744
def tzF (tab : Nat → Int) (x : Nat) : Int := if x = 0 then 64 else tab (tzI x).toNat

theorem wrap_u64_bd (t : Int) : 0 ≤ IntKind.u64.wrap t ∧ IntKind.u64.wrap t < 18446744073709551616 := by
  simp [IntKind.wrap, IntKind.bits, IntKind.signed]; omega

set_option maxHeartbeats 1000000 in
theorem tz_walk {tab : Nat → Int} (ht : ∀ j, j < 64 → 0 ≤ tab j ∧ tab j ≤ 255) (x : Nat) (hx : x < 2 ^ 64) {w : World} (hg : Gd tab w) : Calls Tryz.prog 237 #[.int .u64 x] w fun e w' => e = .returned (.int .i64 (tzF tab x)) ∧ w' = w := by
  by_cases h0 : x = 0
  · subst h0
    go_enter Tryz.func237, Tryz.ntmps237
    go_wp2
    go_ret
    exact ⟨by simp [tzF], rfl⟩
  · have h0' : ((x : Int) == 0) = false := by rw [beq_eq_false_iff_ne]; omega
    have e1 : tzF tab x = tab (tzI x).toNat := if_neg h0
    rw [e1]
    unfold tzI
    have bd := wrap_u64_bd (Go.bits .and .u64 (x : Int) (IntKind.u64.wrap (-(x : Int))) * 285870213051353865)
    obtain ⟨y, ey⟩ : ∃ y, IntKind.u64.wrap (Go.bits .and .u64 (x : Int) (IntKind.u64.wrap (-(x : Int))) * 285870213051353865) = y := ⟨_, rfl⟩
    rw [ey] at bd ⊢
    have i0 : 0 ≤ y / 288230376151711744 := by omega
    have i1 : y / 288230376151711744 < 64 := by omega
    have g0 := hg (y / 288230376151711744).toNat (by omega)
    have t0 := ht (y / 288230376151711744).toNat (by omega)
    generalize tab (y / 288230376151711744).toNat = t at *
    obtain ⟨t1, t2⟩ := t0
    clear hg ht e1 bd
    go_enter Tryz.func237, Tryz.ntmps237
    go_wp2
    go_ret
    exact ⟨rfl, rfl⟩

def TabOk (tab : Nat → Int) : Prop := ∀ k : Nat, k < 64 → tab (2 ^ k * 285870213051353865 % 18446744073709551616 / 288230376151711744) = (k : Int)

theorem low_bit (x : Nat) (h0 : x ≠ 0) : ∃ k m, x = 2 ^ k * (2 * m + 1) := by
  induction x using Nat.strongRecOn with
  | ind x ih =>
    by_cases e : x % 2 = 1
    · exact ⟨0, x / 2, by omega⟩
    · obtain ⟨k, m, hm⟩ := ih (x / 2) (by omega) (by omega)
      exact ⟨k + 1, m, by rw [Nat.pow_succ]; have : x = 2 * (x / 2) := by omega
                          rw [this, hm]; rw [Nat.mul_comm (2 ^ k) 2, Nat.mul_assoc]⟩

theorem low_and {x k m : Nat} (hx : x = 2 ^ k * (2 * m + 1)) (h64 : x < 2 ^ 64) : k < 64 ∧ x &&& (2 ^ 64 - x) = 2 ^ k := by
  have hp : 0 < 2 ^ k := Nat.two_pow_pos k
  have hk : k < 64 := by
    refine Nat.lt_of_not_le fun h => ?_
    have h1 : 2 ^ 64 ≤ 2 ^ k := Nat.pow_le_pow_right (by decide) h
    have h2 : 2 ^ k * 1 ≤ 2 ^ k * (2 * m + 1) := Nat.mul_le_mul_left _ (by omega)
    omega
  refine ⟨hk, ?_⟩
  have hx1 : 1 ≤ x := by
    rw [hx]; exact Nat.mul_pos hp (by omega)
  have hx' : x - 1 < 2 ^ 64 := by omega
  have e1 : 2 ^ 64 - x = 2 ^ 64 - ((x - 1) + 1) := by omega
  have hx2 : x - 1 = 2 ^ k * (2 * m) + (2 ^ k - 1) := by
    rw [hx, Nat.mul_add]; omega
  apply Nat.eq_of_testBit_eq
  intro i
  rw [Nat.testBit_and, e1, Nat.testBit_two_pow_sub_succ hx', Nat.testBit_two_pow]
  rw [hx2, Nat.testBit_two_pow_mul_add _ (by omega)]
  rw [hx, Nat.testBit_two_pow_mul]
  by_cases h1 : i < k
  · have : ¬ k ≤ i := by omega
    have h3 : ¬ k = i := by omega
    simp [this, h3]
  · have h2 : k ≤ i := by omega
    simp only [h2, decide_true, Bool.true_and, h1, if_false]
    by_cases e : k = i
    · subst e
      simp [hk]
    · obtain ⟨j, hj⟩ : ∃ j, i - k = j + 1 := ⟨i - k - 1, by omega⟩
      rw [hj]
      simp only [Nat.testBit_succ]
      have h3 : (2 * m + 1) / 2 = m := by omega
      have h4 : 2 * m / 2 = m := by omega
      rw [h3, h4]
      simp [e]
      intro a _
      exact a

theorem and_u64 (x y : Nat) (hx : x < 2 ^ 64) (hy : y < 2 ^ 64) : Go.bits .and .u64 (x : Int) (y : Int) = ((x &&& y : Nat) : Int) := and_nat x y hx hy

theorem tz_ok {tab : Nat → Int} (ht : TabOk tab) {x k m : Nat} (hx : x = 2 ^ k * (2 * m + 1)) (h64 : x < 2 ^ 64) : tzF tab x = (k : Int) := by
  obtain ⟨hk, ha⟩ := low_and hx h64
  have h0 : x ≠ 0 := by
    rw [hx]; exact Nat.ne_of_gt (Nat.mul_pos (Nat.two_pow_pos k) (by omega))
  unfold tzF
  rw [if_neg h0]
  have e1 : IntKind.u64.wrap (-(x : Int)) = ((2 ^ 64 - x : Nat) : Int) := by
    simp [IntKind.wrap, IntKind.bits, IntKind.signed]; omega
  have e2 : tzI x = ((2 ^ k * 285870213051353865 % 18446744073709551616 / 288230376151711744 : Nat) : Int) := by
    unfold tzI
    rw [e1, and_u64 _ _ h64 (by omega), ha]
    generalize 2 ^ k = q
    simp [IntKind.wrap, IntKind.bits, IntKind.signed]
  rw [e2, Int.toNat_natCast]
  exact ht k hk

def tabL : List Int := [0, 1, 56, 2, 57, 49, 28, 3, 61, 58, 42, 50, 38, 29, 17, 4, 62, 47, 59, 36, 45, 43, 51, 22, 53, 39, 33, 30, 24, 18, 12, 5, 63, 55, 48, 27, 60, 41, 37, 16, 46, 35, 44, 21, 52, 32, 23, 11, 54, 26, 40, 15, 34, 20, 31, 10, 25, 14, 19, 9, 13, 8, 7, 6]
def tabC (j : Nat) : Int := tabL.getD j 0
theorem tabC_ok : TabOk tabC := by
  have h : ∀ k : Fin 64, tabC (2 ^ k.1 * 285870213051353865 % 18446744073709551616 / 288230376151711744) = (k.1 : Int) := by decide
  exact fun k hk => h ⟨k, hk⟩
theorem tabC_bd : ∀ j, j < 64 → 0 ≤ tabC j ∧ tabC j ≤ 255 := by
  have h : ∀ k : Fin 64, 0 ≤ tabC k.1 ∧ tabC k.1 ≤ 255 := by decide
  exact fun k hk => h ⟨k, hk⟩

end Go.Proofs.Qxb6500847aGreatDoor.Os
