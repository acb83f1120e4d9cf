/-
  The bitset.
-/
import Derived.Test.Qxb6500847aGreatDoorOsP
namespace Go.Proofs.Qxb6500847aGreatDoor.Os
open Go.RowKit FloorA
set_option maxRecDepth 100000

theorem or_nat (a b : Nat) (ha : a < 2 ^ 64) (hb : b < 2 ^ 64) : Go.bits .or .u64 (a : Int) (b : Int) = ((a ||| b : Nat) : Int) := by
  have e : Go.bits .or .u64 (a : Int) (b : Int) = IntKind.u64.wrap (((BitVec.ofInt 64 (a : Int)).toNat ||| (BitVec.ofInt 64 (b : Int)).toNat : Nat) : Int) := by
    show IntKind.u64.wrap ((BitVec.ofInt 64 (a : Int) ||| BitVec.ofInt 64 (b : Int)).toNat : Int) = _
    rw [BitVec.toNat_or]
  rw [e, BitVec.ofInt_natCast, BitVec.toNat_ofNat, Nat.mod_eq_of_lt ha, BitVec.ofInt_natCast, BitVec.toNat_ofNat, Nat.mod_eq_of_lt hb]
  have h2 : a ||| b < 2 ^ 64 := Nat.or_lt_two_pow ha hb
  generalize a ||| b = r at *
  simp [IntKind.wrap, IntKind.bits, IntKind.signed]; omega
theorem andNot_nat (a b : Nat) (ha : a < 2 ^ 64) (hb : b < 2 ^ 64) : Go.bits .andNot .u64 (a : Int) (b : Int) = ((a &&& (2 ^ 64 - (b + 1)) : Nat) : Int) := by
  have e : Go.bits .andNot .u64 (a : Int) (b : Int) = IntKind.u64.wrap (((BitVec.ofInt 64 (a : Int)).toNat &&& (2 ^ 64 - 1 - (BitVec.ofInt 64 (b : Int)).toNat) : Nat) : Int) := by
    show IntKind.u64.wrap ((BitVec.ofInt 64 (a : Int) &&& ~~~ BitVec.ofInt 64 (b : Int)).toNat : Int) = _
    rw [BitVec.toNat_and, BitVec.toNat_not]
  rw [e, BitVec.ofInt_natCast, BitVec.toNat_ofNat, Nat.mod_eq_of_lt ha, BitVec.ofInt_natCast, BitVec.toNat_ofNat, Nat.mod_eq_of_lt hb]
  have h2 : a &&& (2 ^ 64 - 1 - b) < 2 ^ 64 := Nat.and_lt_two_pow a (by omega)
  have e3 : 2 ^ 64 - (b + 1) = 2 ^ 64 - 1 - b := by omega
  rw [e3]
  generalize a &&& (2 ^ 64 - 1 - b) = r at *
  simp [IntKind.wrap, IntKind.bits, IntKind.signed]; omega
theorem and63 (i : Nat) (hi : i < 65536) : Go.bits .and .u16 (i : Int) 63 = ((i % 64 : Nat) : Int) := by
  have e : bits .and .u16 (i : Int) 63 = IntKind.u16.wrap (((BitVec.ofInt 16 (i : Int)).toNat &&& 63 : Nat) : Int) := by
    show IntKind.u16.wrap ((BitVec.ofInt 16 (i : Int) &&& BitVec.ofInt 16 63).toNat : Int) = _
    rw [BitVec.toNat_and]
    rfl
  rw [e, BitVec.ofInt_natCast, BitVec.toNat_ofNat, Nat.mod_eq_of_lt (by simpa using hi)]
  have h3 : i &&& 63 = i % 64 := by
    have := Nat.and_two_pow_sub_one_eq_mod i 6
    simpa using this
  rw [h3]
  simp [IntKind.wrap, IntKind.bits, IntKind.signed]; omega
theorem pow_lt (k : Nat) (hk : k < 64) : 2 ^ k < 2 ^ 64 := Nat.pow_lt_pow_right (by decide) hk
theorem shl1 (k : Nat) (hk : k < 64) : IntKind.u64.wrap (2 ^ k) = ((2 ^ k : Nat) : Int) := by
  have := pow_lt k hk
  have e : (2 : Int) ^ k = ((2 ^ k : Nat) : Int) := by simp
  rw [e]
  generalize 2 ^ k = q at *
  simp [IntKind.wrap, IntKind.bits, IntKind.signed]; omega

/-- Entry i may be handed out. -/
def Idl (s : Av) (i : Nat) : Prop := (s.idl (i / 64)).testBit (i % 64) = true
/-- The five words are words. -/
def Wd (s : Av) : Prop := ∀ j, j < 5 → s.idl j < 2 ^ 64
def Av.on (s : Av) (i : Nat) : Av := s.setIdl (i / 64) (s.idl (i / 64) ||| 2 ^ (i % 64))
def Av.off (s : Av) (i : Nat) : Av := s.setIdl (i / 64) (s.idl (i / 64) &&& (2 ^ 64 - (2 ^ (i % 64) + 1)))
theorem Wd.on {s : Av} (h : Wd s) (i : Nat) : Wd (s.on i) := fun j hj => by
  unfold Av.on Av.setIdl
  by_cases e : j = i / 64
  · simp only [e, if_true]
    exact Nat.or_lt_two_pow (h _ (by omega)) (pow_lt _ (by omega))
  · simp only [e, if_false]; exact h j hj
theorem Wd.off {s : Av} (h : Wd s) (i : Nat) : Wd (s.off i) := fun j hj => by
  unfold Av.off Av.setIdl
  by_cases e : j = i / 64
  · simp only [e, if_true]
    exact Nat.lt_of_le_of_lt Nat.and_le_left (h _ (by omega))
  · simp only [e, if_false]; exact h j hj
theorem Idl.on {s : Av} {i j : Nat} : Idl (s.on i) j ↔ Idl s j ∨ j = i := by
  unfold Idl Av.on Av.setIdl
  by_cases e : j / 64 = i / 64
  · simp only [e, if_true, Nat.testBit_or, Nat.testBit_two_pow, Bool.or_eq_true, decide_eq_true_eq]
    constructor
    · rintro (h | h)
      · exact Or.inl h
      · exact Or.inr (by omega)
    · rintro (h | h)
      · exact Or.inl h
      · exact Or.inr (by omega)
  · simp only [e, if_false]
    exact ⟨Or.inl, fun h => h.elim id (fun h => absurd (by rw [h]) e)⟩
theorem Idl.off {s : Av} {i j : Nat} : Idl (s.off i) j ↔ Idl s j ∧ j ≠ i := by
  unfold Idl Av.off Av.setIdl
  by_cases e : j / 64 = i / 64
  · simp only [e, if_true, Nat.testBit_and, Nat.testBit_two_pow_sub_succ (pow_lt (i % 64) (by omega)), Nat.testBit_two_pow, Bool.and_eq_true, decide_eq_true_eq, Bool.not_eq_true', decide_eq_false_iff_not]
    constructor
    · rintro ⟨h, _, k⟩
      exact ⟨h, fun q => k (by rw [q])⟩
    · rintro ⟨h, k⟩
      exact ⟨h, by omega, by omega⟩
  · simp only [e, if_false]
    exact ⟨fun h => ⟨h, fun q => e (by rw [q])⟩, fun h => h.1⟩

section
variable {A : Nat} {s : Av} {w : World}
theorem Am.idle (hA : Am w A s) {j : Nat} (hj : j < 5) : w.cell? ⟨A, 2560 + j, none⟩ = some (.int .u64 (s.idl j : Int)) := (hA.cell (2560 + j) (by omega)).trans (by rw [mem_idl _ hj])
theorem Am.drew (hA : Am w A s) : Am w.drew A s := ⟨hA.cell, hA.free⟩
theorem self_ext (w : World) (A o : Nat) (v : Value) : Ext w.heap.size (fun b => b = A) w (w.setCell ⟨A, o, none⟩ v) := Ext.setCell (X := fun b => b = A) (p := ⟨A, o, none⟩) (Ext.refl _ _ _) (Or.inr rfl) _
theorem Ext.drew {B : Nat} {X : Nat → Prop} {w w' : World} (h : Ext B X w w') : Ext B X w w'.drew := ⟨h.os, h.tape, h.output, h.size, h.block⟩

def StPost (s' : Av) (A : Nat) (w : World) (e : Ending) (w' : World) : Prop := e = .returned (.tuple #[]) ∧ Am w' A s' ∧ Ext w.heap.size (fun b => b = A) w w'
theorem set_walk (hA : Am w A s) (hw : Wd s) {i : Nat} (hi : i < 320) :
    Calls Tryz.prog 42 #[.pointer (some ⟨A, 2560, none⟩), .int .u16 (i : Int)] w (StPost (s.on i) A w) := by
  have hc := hA.idle (j := i / 64) (by omega)
  have hf := hA.free (2560 + i / 64)
  have e2 : 0 ≤ (i : Int) / 64 := by omega
  have e3 : (i : Int) / 64 < 5 := by omega
  have e4 := and_u16 (i : Int)
  have ev : bits .or .u64 (s.idl (i / 64) : Int) (IntKind.u64.wrap (2 ^ (bits .and .u16 (i : Int) 63).toNat)) = ((s.idl (i / 64) ||| 2 ^ (i % 64) : Nat) : Int) := by
    rw [and63 i (by omega), Int.toNat_natCast, shl1 _ (by omega), or_nat _ _ (hw _ (by omega)) (pow_lt _ (by omega))]
  have Hev := hideIt ev
  clear ev
  go_enter Tryz.func42, Tryz.ntmps42
  go_wp2_with fail
  go_region
  go_wp2_with fail
  rw [Hev.out]
  exact bodyPost_ret (v := .tuple #[]) (by simp [results, Tryz.results42]) rfl ⟨rfl, (hA.setIdl _ (by omega)).drew, (self_ext _ _ _ _).drew⟩
theorem clear_walk (hA : Am w A s) (hw : Wd s) {i : Nat} (hi : i < 320) :
    Calls Tryz.prog 226 #[.pointer (some ⟨A, 2560, none⟩), .int .u16 (i : Int)] w (StPost (s.off i) A w) := by
  have hc := hA.idle (j := i / 64) (by omega)
  have hf := hA.free (2560 + i / 64)
  have e2 : 0 ≤ (i : Int) / 64 := by omega
  have e3 : (i : Int) / 64 < 5 := by omega
  have e4 := and_u16 (i : Int)
  have ev : bits .andNot .u64 (s.idl (i / 64) : Int) (IntKind.u64.wrap (2 ^ (bits .and .u16 (i : Int) 63).toNat)) = ((s.idl (i / 64) &&& (2 ^ 64 - (2 ^ (i % 64) + 1)) : Nat) : Int) := by
    rw [and63 i (by omega), Int.toNat_natCast, shl1 _ (by omega), andNot_nat _ _ (hw _ (by omega)) (pow_lt _ (by omega))]
  have Hev := hideIt ev
  clear ev
  go_enter Tryz.func226, Tryz.ntmps226
  go_wp2_with fail
  go_region
  go_wp2_with fail
  rw [Hev.out]
  exact bodyPost_ret (v := .tuple #[]) (by simp [results, Tryz.results226]) rfl ⟨rfl, (hA.setIdl _ (by omega)).drew, (self_ext _ _ _ _).drew⟩
end

/-! ### the search -/
theorem low_test {x t m : Nat} (hx : x = 2 ^ t * (2 * m + 1)) : x.testBit t = true ∧ ∀ b, b < t → x.testBit b = false := by
  rw [hx]
  refine ⟨?_, fun b hb => ?_⟩
  · rw [Nat.testBit_two_pow_mul]
    simp
  · rw [Nat.testBit_two_pow_mul]
    simp
    omega
theorem zero_test {x : Nat} (h : x = 0) (b : Nat) : x.testBit b = false := by rw [h]; simp
structure Nx (s : Av) (f lim k x : Nat) : Prop where
  k5 : k < 5
  x64 : x < 2 ^ 64
  bit : ∀ b, b < 64 → (x.testBit b = true ↔ (Idl s (64 * k + b) ∧ f ≤ 64 * k + b))
  low : ∀ j, f ≤ j → j < 64 * k → ¬ Idl s j
  kl : 64 * k < lim
  fk : f < 64 * (k + 1)
theorem idl_at {s : Av} {k b : Nat} (hb : b < 64) : Idl s (64 * k + b) ↔ (s.idl k).testBit b = true := by
  unfold Idl
  rw [show (64 * k + b) / 64 = k by omega, show (64 * k + b) % 64 = b by omega]
theorem Nx.start {s : Av} {f lim : Nat} (hw : Wd s) (h1 : f < lim) (h2 : lim ≤ 320) : Nx s f lim (f / 64) (s.idl (f / 64) &&& (2 ^ 64 - ((2 ^ (f % 64) - 1) + 1))) := by
  have hp : 2 ^ (f % 64) - 1 < 2 ^ 64 := by have := pow_lt (f % 64) (by omega); omega
  refine ⟨by omega, Nat.lt_of_le_of_lt Nat.and_le_left (hw _ (by omega)), fun b hb => ?_, fun j h3 h4 => by omega, by omega, by omega⟩
  rw [idl_at hb, Nat.testBit_and, Nat.testBit_two_pow_sub_succ hp, Nat.testBit_two_pow_sub_one]
  simp only [Bool.and_eq_true, decide_eq_true_eq, Bool.not_eq_true', decide_eq_false_iff_not, Nat.not_lt]
  constructor
  · rintro ⟨h, _, k⟩
    exact ⟨h, by omega⟩
  · rintro ⟨h, k⟩
    exact ⟨h, hb, by omega⟩
theorem Nx.none {s : Av} {f lim k x : Nat} (h : Nx s f lim k x) (hx : x = 0) : ∀ j, f ≤ j → j < 64 * (k + 1) → ¬ Idl s j := fun j h1 h2 q => by
  by_cases e : j < 64 * k
  · exact h.low j h1 e q
  · have := (h.bit (j - 64 * k) (by omega)).2 ⟨by rw [show 64 * k + (j - 64 * k) = j by omega]; exact q, by omega⟩
    rw [zero_test hx] at this
    cases this
theorem Nx.next {s : Av} {f lim k x : Nat} (hw : Wd s) (h : Nx s f lim k x) (hx : x = 0) (hk : k + 1 < 5) (hl : 64 * (k + 1) < lim) : Nx s f lim (k + 1) (s.idl (k + 1)) := by
  have low := h.none hx
  have hfk := h.fk
  refine ⟨hk, hw _ hk, fun b hb => ?_, low, hl, by omega⟩
  rw [idl_at hb]
  exact ⟨fun q => ⟨q, by omega⟩, fun q => q.1⟩
def NxPost (s : Av) (f lim : Nat) (w : World) (e : Ending) (w' : World) : Prop := w' = w ∧ ((e = .returned (.int .u16 65535) ∧ ∀ j, f ≤ j → j < lim → ¬ Idl s j) ∨ ∃ i : Nat, e = .returned (.int .u16 (i : Int)) ∧ f ≤ i ∧ i < lim ∧ Idl s i ∧ ∀ j, f ≤ j → j < i → ¬ Idl s j)
set_option maxHeartbeats 1600000 in
theorem next_walk {A : Nat} {s : Av} {w : World} (hA : Am w A s) (hw : Wd s) (hg : Gd tabC w) {f lim : Nat} (hf : f ≤ lim) (hl : lim ≤ 320) :
    Calls Tryz.prog 127 #[.pointer (some ⟨A, 2560, none⟩), .int .u16 (f : Int), .int .u16 (lim : Int)] w (NxPost s f lim w) := by
  by_cases h0 : f < lim
  · have hn : ((f : Int) ≥ (lim : Int)) = False := by simp; omega
    have HA := hideIt hA
    have Hw : Hid (Wd s) := hw
    have Hg : Hid (Gd tabC w) := hg
    have hc := hA.idle (j := f / 64) (by omega)
    have e2 : 0 ≤ (f : Int) / 64 := by omega
    have e3 : (f : Int) / 64 < 5 := by omega
    have e4 := and_u16 (f : Int)
    have HN := hideIt (Nx.start hw h0 hl)
    have ev : bits .andNot .u64 (s.idl (f / 64) : Int) (IntKind.u64.wrap (IntKind.u64.wrap (2 ^ (bits .and .u16 (f : Int) 63).toNat) - 1)) = ((s.idl (f / 64) &&& (2 ^ 64 - ((2 ^ (f % 64) - 1) + 1)) : Nat) : Int) := by
      have hp := pow_lt (f % 64) (by omega)
      have h1 : 1 ≤ 2 ^ (f % 64) := Nat.one_le_two_pow
      have e5 : IntKind.u64.wrap (((2 ^ (f % 64) : Nat) : Int) - 1) = ((2 ^ (f % 64) - 1 : Nat) : Int) := by
        generalize 2 ^ (f % 64) = q at *
        simp [IntKind.wrap, IntKind.bits, IntKind.signed]; omega
      rw [and63 f (by omega), Int.toNat_natCast, shl1 _ (by omega), e5, andNot_nat _ _ (hw _ (by omega)) (by omega)]
    have Hev := hideIt ev
    clear ev hA hw hg
    go_enter Tryz.func127, Tryz.ntmps127
    go_wp2_with fail
    rw [Hev.out]
    clear hc e2 e3 e4 Hev
    go_loopw [7, 8] (fun v7 v8 wr => ∃ k x : Nat, v7 = .int .i64 (k : Int) ∧ v8 = .int .u64 (x : Int) ∧ wr = w ∧ Nx s f lim k x) (fun v7 _ _ => 5 - (intOf v7).toNat)
    case atStart => exact ⟨f / 64, _, by simp, rfl, rfl, HN.out⟩
    case round =>
      obtain ⟨k, x, rfl, rfl, hwr, hN⟩ := hrel
      subst hwr
      have HN := hideIt hN
      have k5 := hN.k5
      have x64 := hN.x64
      have kl := hN.kl
      clear hN
      by_cases hx : x = 0
      · have Hx : Hid (x = 0) := hx
        subst hx
        by_cases hk : k + 1 < 5
        · have hk' : ((k : Int) + 1 ≥ 5) = False := by simp; omega
          by_cases hll : 64 * (k + 1) < lim
          · have hc := HA.out.idle (j := k + 1) hk
            have HX := hideIt (Nx.next Hw.out HN.out rfl hk hll)
            go_wp2_with fail
            exact ⟨⟨k + 1, _, by go_num, rfl, trivial, HX.out⟩, by simp [intOf]; omega⟩
          · go_wp2_with fail
            go_ret
            exact ⟨rfl, Or.inl ⟨rfl, fun j h1 h2 => HN.out.none rfl j h1 (by omega)⟩⟩
        · go_wp2_with fail
          go_ret
          exact ⟨rfl, Or.inl ⟨rfl, fun j h1 h2 => HN.out.none rfl j h1 (by omega)⟩⟩
      · have hx' : ((x : Int) != 0) = true := by rw [bne_iff_ne]; omega
        obtain ⟨t, m, ht⟩ := low_bit x hx
        obtain ⟨t64, _⟩ := low_and ht x64
        have Htz : Hid (∀ W, Gd tabC W → Calls Tryz.prog 237 #[.int .u64 (x : Int)] W fun e w' => e = .returned (.int .i64 (t : Int)) ∧ w' = W) := fun W hW => by
          have := tz_walk tabC_bd x x64 hW
          rw [tz_ok tabC_ok ht x64] at this
          exact this
        have Ht := hideIt (low_test ht)
        clear ht
        have Hi : Hid (Idl s (64 * k + t) ∧ f ≤ 64 * k + t) := (HN.out.bit t t64).1 Ht.out.1
        have Hl : Hid (∀ j, f ≤ j → j < 64 * k + t → ¬ Idl s j) := fun j h1 h2 q => by
          by_cases e : j < 64 * k
          · exact HN.out.low j h1 e q
          · have := (HN.out.bit (j - 64 * k) (by omega)).2 ⟨by rw [show 64 * k + (j - 64 * k) = j by omega]; exact q, by omega⟩
            rw [Ht.out.2 _ (by omega)] at this
            cases this
        by_cases hlt : 64 * k + t < lim
        · have hlt' : (k : Int) * 64 + t < lim := by omega
          go_wp2_with (go_at_call 237; refine (Htz.out _ Hg.out).mono ?_; rintro e w' ⟨rfl, hw'⟩; obtain rfl := hw'.symm)
          go_ret
          exact ⟨rfl, Or.inr ⟨64 * k + t, ret_int (by omega), Hi.out.2, hlt, Hi.out.1, Hl.out⟩⟩
        · have hlt' : ¬ (k : Int) * 64 + t < lim := by omega
          go_wp2_with (go_at_call 237; refine (Htz.out _ Hg.out).mono ?_; rintro e w' ⟨rfl, hw'⟩; obtain rfl := hw'.symm)
          go_ret
          exact ⟨rfl, Or.inl ⟨rfl, fun j h1 h2 => Hl.out j h1 (by omega)⟩⟩
  · have hn : ((f : Int) ≥ (lim : Int)) = True := by simp; omega
    go_enter Tryz.func127, Tryz.ntmps127
    go_wp2_with fail
    go_ret
    exact ⟨rfl, Or.inl ⟨rfl, fun j h1 h2 => by omega⟩⟩

/-- How many entries may be handed out. -/
def cnI (s : Av) (lo hi : Nat) : Nat := (List.range hi).countP (fun i => decide (lo ≤ i) && (s.idl (i / 64)).testBit (i % 64))
theorem cnI_word (s : Av) (a k : Nat) (h : a ≤ k) : cnI s (64 * a) (64 * (k + 1)) = cnI s (64 * a) (64 * k) + popc (s.idl k) := by
  unfold cnI popc
  rw [show 64 * (k + 1) = 64 * k + 64 by omega, List.range_add, List.countP_append, List.countP_map]
  congr 1
  apply List.countP_congr
  intro i hi
  have hi' : i < 64 := by simpa using hi
  simp only [Function.comp]
  rw [show (64 * k + i) / 64 = k by omega, show (64 * k + i) % 64 = i by omega]
  have : 64 * a ≤ 64 * k + i := by omega
  simp [this]
theorem cnI_none (s : Av) (a : Nat) : cnI s a a = 0 := by
  unfold cnI
  rw [List.countP_eq_zero]
  intro i hi
  have hi' : i < a := by simpa using hi
  have : ¬ a ≤ i := by omega
  simp [this]
set_option maxHeartbeats 1600000 in
theorem count_walk {A : Nat} {s : Av} {w : World} (hA : Am w A s) (hw : Wd s) {a b : Nat} (hab : a ≤ b) (hb : b ≤ 5) :
    Calls Tryz.prog 48 #[.pointer (some ⟨A, 2560, none⟩), .int .u16 ((64 * a : Nat) : Int), .int .u16 ((64 * b : Nat) : Int)] w fun e w' => e = .returned (.int .i64 (cnI s (64 * a) (64 * b) : Int)) ∧ w' = w := by
  have HA := hideIt hA
  have Hw : Hid (Wd s) := hw
  have ea : ((64 * a : Nat) : Int) / 64 = (a : Int) := by omega
  have eb : ((64 * b : Nat) : Int) / 64 = (b : Int) := by omega
  have la : 0 ≤ ((64 * a : Nat) : Int) ∧ ((64 * a : Nat) : Int) < 65536 := by omega
  have lb : 0 ≤ ((64 * b : Nat) : Int) ∧ ((64 * b : Nat) : Int) < 65536 := by omega
  generalize hc : ((64 * a : Nat) : Int) = x at *
  generalize hd : ((64 * b : Nat) : Int) = y at *
  clear hA hw hc hd
  go_enter Tryz.func48, Tryz.ntmps48
  go_wp2_with fail
  go_loopw [7, 8] (fun v7 v8 wr => ∃ k n : Nat, a ≤ k ∧ k ≤ b ∧ v8 = .int .i64 (k : Int) ∧ v7 = .int .i64 (n : Int) ∧ n = cnI s (64 * a) (64 * k) ∧ n ≤ 64 * k ∧ wr = w) (fun _ v8 _ => b - (intOf v8).toNat)
  case atStart => exact ⟨a, 0, Nat.le_refl _, hab, by simp, rfl, (cnI_none _ _).symm, by omega, rfl⟩
  case round =>
    obtain ⟨k, n, h1, h2, rfl, rfl, hn, hn2, hwr⟩ := hrel
    subst hwr
    by_cases hlt : k < b
    · have hc := HA.out.idle (j := k) (by omega)
      have Hn : Hid (n = cnI s (64 * a) (64 * k)) := hn
      have hx := Hw.out k (by omega)
      have hp : popc (s.idl k) ≤ 64 := by unfold popc; exact Nat.le_trans List.countP_le_length (by simp)
      have HO := hideIt (fun W => ones_walk (s.idl k) hx W)
      have HC := hideIt (cnI_word s a k h1)
      generalize popc (s.idl k) = q at *
      clear hn
      go_wp2_with (go_at_call 125; refine (HO.out _).mono ?_; rintro e w' ⟨rfl, hw'⟩; obtain rfl := hw'.symm)
      exact ⟨⟨k + 1, n + q, by omega, by omega, by go_num, by go_num, by rw [HC.out, ← Hn.out], by omega, trivial⟩, by simp [intOf]; omega⟩
    · obtain rfl : k = b := by omega
      go_wp2_with fail
      go_ret
      exact ⟨by rw [hn]; rfl, rfl⟩
end Go.Proofs.Qxb6500847aGreatDoor.Os
