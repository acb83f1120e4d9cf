/-
  The walks of ReadDigest, Uvarint and of the reader's small methods.
-/
import Derived.Test.Qxb6500847aGreatDoorFloorA
import Derived.Deep.QuietTactic
import Derived.BigQuiet
import Derived.OneCell
import Derived.WalkSmall
namespace Go.Proofs.Qxb6500847aGreatDoor.FloorA
open Go.RowKit
set_option maxRecDepth 100000

/-! ### ReadDigest -/
theorem dbytes_get : ∀ (n k : Nat) (d : Int), k < n → (dbytes n d).getD k 0 = d / 256 ^ k % 256
  | 0, _, _, h => by omega
  | n + 1, 0, d, _ => by simp [dbytes]
  | n + 1, k + 1, d, h => by
    have := dbytes_get n k (d / 256) (by omega)
    simp only [dbytes, List.getD_cons_succ]
    rw [this, Int.ediv_ediv_of_nonneg (by omega), Int.pow_succ, Int.mul_comm]
theorem hi_step (d : Int) (k : Nat) : d / 256 ^ (k + 1) * 256 + d / 256 ^ k % 256 = d / 256 ^ k := by
  rw [Int.pow_succ, ← Int.ediv_ediv_of_nonneg (Int.pow_nonneg (by omega))]
  omega

set_option maxHeartbeats 400000 in
theorem readDigest_any (g o cap : Nat) (d : Int) (w : World) (hd0 : 0 ≤ d) (hd1 : d ≤ 18446744073709551615) (hb : BytesAt w g o (dbytes 8 d)) :
    Calls Tryz.prog 101 #[.slice (some ⟨g, o, none⟩) 8 cap] w fun e w' => e = .returned (.tuple #[.int .u64 d, .bool true]) ∧ w' = w := by
  have HB := hideIt hb
  clear hb
  have hrange : ∀ k : Nat, 0 ≤ d / 256 ^ k ∧ d / 256 ^ k ≤ 18446744073709551615 := fun k =>
    ⟨Int.ediv_nonneg hd0 (Int.pow_nonneg (by omega)), Int.le_trans (Int.ediv_le_self _ hd0) hd1⟩
  have HR := hideIt hrange
  have HD1 := hideIt hd1
  have HZ : Hid (d / 256 ^ 8 = 0) := by
    show d / 256 ^ 8 = 0
    omega
  clear hrange hd1
  go_enter Tryz.func101, Tryz.ntmps101
  go_wp2
  go_loop [2, 4] (fun s2 s4 => ∃ k : Nat, k ≤ 8 ∧ s4 = .int .i64 ((k : Int) - 1) ∧ s2 = .int .u64 (d / 256 ^ k)) (fun _ s4 => (intOf s4 + 1).toNat)
  case atStart => exact ⟨8, by omega, rfl, by rw [HZ.out]⟩
  case round =>
    obtain ⟨k, hk, rfl, rfl⟩ := hrel
    match k, hk with
    | 0, _ =>
      go_wp2
      go_ret2
      exact ⟨by simp, rfl⟩
    | k + 1, hk =>
      obtain ⟨hc, hc0, hc1⟩ := HB.out k (by rw [dbytes_length]; omega)
      rw [dbytes_get 8 k d (by omega)] at hc hc0 hc1
      have hs := hi_step d k
      obtain ⟨q0, q1⟩ := HR.out k
      obtain ⟨r0, _⟩ := HR.out (k + 1)
      generalize d / 256 ^ (k + 1) = r at *
      generalize d / 256 ^ k % 256 = c at *
      have HQ := hideIt hs
      have hle : r * 256 + c ≤ 18446744073709551615 := by omega
      clear hs q0 q1
      rw [show (((k + 1 : Nat) : Int) - 1) = (k : Int) by omega]
      go_wp2
      go_round
      case rel => exact ⟨k, by omega, rfl, by rw [← HQ.out]⟩
      case measure => simp [intOf]

/-! ### Uvarint -/
/-- At block g, offset p, with L bytes in sight, a varint of m bytes spells v. -/
def UvAt (w : World) (g p L : Nat) (v : Int) (m : Nat) : Prop :=
  (m = 1 ∧ 1 ≤ L ∧ 0 ≤ v ∧ v < 128 ∧ w.cell? ⟨g, p, none⟩ = some (.int .u8 v)) ∨
  (m = 2 ∧ 2 ≤ L ∧ 128 ≤ v ∧ v < 16384 ∧ w.cell? ⟨g, p, none⟩ = some (.int .u8 (v % 128 + 128)) ∧ w.cell? ⟨g, p + 1, none⟩ = some (.int .u8 (v / 128)))

set_option maxHeartbeats 400000 in
theorem uvarint_one (g p L cap : Nat) (v : Int) (w : World) (hL : 1 ≤ L) (hL2 : L ≤ 100000) (h0 : 0 ≤ v) (h1 : v < 128) (hc : w.cell? ⟨g, p, none⟩ = some (.int .u8 v)) :
    Calls Tryz.prog 225 #[.slice (some ⟨g, p, none⟩) L cap] w fun e w' => e = .returned (.tuple #[.int .u64 v, .int .i64 1, .bool true]) ∧ w' = w := by
  have hm : v % 128 = v := by omega
  go_enter Tryz.func225, Tryz.ntmps225
  go_wp2
  go_loop [2, 5, 6] (fun s2 s5 s6 => s2 = .int .u64 0 ∧ s5 = .int .u64 1 ∧ s6 = .int .i64 0) (fun _ _ _ => 0)
  case atStart => exact ⟨rfl, rfl, rfl⟩
  case round =>
    obtain ⟨rfl, rfl, rfl⟩ := hrel
    have hlt : (0 : Int) < (L : Int) := by omega
    go_wp2
    all_goals go_ret3
    all_goals exact ⟨rfl, rfl⟩

set_option maxHeartbeats 800000 in
theorem uvarint_two (g p L cap : Nat) (v : Int) (w : World) (hL : 2 ≤ L) (hL2 : L ≤ 100000) (h0 : 128 ≤ v) (h1 : v < 16384) (hc : w.cell? ⟨g, p, none⟩ = some (.int .u8 (v % 128 + 128))) (hc2 : w.cell? ⟨g, p + 1, none⟩ = some (.int .u8 (v / 128))) :
    Calls Tryz.prog 225 #[.slice (some ⟨g, p, none⟩) L cap] w fun e w' => e = .returned (.tuple #[.int .u64 v, .int .i64 2, .bool true]) ∧ w' = w := by
  have hd0 : 1 ≤ v / 128 := by omega
  have hd1 : v / 128 < 128 := by omega
  have hr0 : 0 ≤ v % 128 := by omega
  have hr1 : v % 128 < 128 := by omega
  have HV : Hid (v % 128 + v / 128 * 128 = v) := by
    show v % 128 + v / 128 * 128 = v
    omega
  generalize v % 128 = r at *
  generalize v / 128 = q at *
  go_enter Tryz.func225, Tryz.ntmps225
  go_wp2
  go_loop [2, 5, 6] (fun s2 s5 s6 => (s2 = .int .u64 0 ∧ s5 = .int .u64 1 ∧ s6 = .int .i64 0) ∨ (s2 = .int .u64 r ∧ s5 = .int .u64 128 ∧ s6 = .int .i64 1)) (fun _ _ s6 => (1 - intOf s6).toNat)
  case atStart => exact .inl ⟨rfl, rfl, rfl⟩
  case round =>
    rcases hrel with ⟨rfl, rfl, rfl⟩ | ⟨rfl, rfl, rfl⟩
    · have hlt : (0 : Int) < (L : Int) := by omega
      have hm : (r + 128) % 128 = r := by omega
      go_wp2
      go_round
      case rel => exact .inr ⟨rfl, rfl, rfl⟩
      case measure => simp [intOf]
    · have hlt : (1 : Int) < (L : Int) := by omega
      have hm : q % 128 = q := by omega
      have hz : (q == 0) = false := by simp; omega
      go_wp2
      go_ret3
      exact ⟨by rw [HV.out]; rfl, rfl⟩
theorem uvarint_any (g p L cap : Nat) (v : Int) (m : Nat) (w : World) (hL2 : L ≤ 100000) (h : UvAt w g p L v m) :
    Calls Tryz.prog 225 #[.slice (some ⟨g, p, none⟩) L cap] w fun e w' => e = .returned (.tuple #[.int .u64 v, .int .i64 m, .bool true]) ∧ w' = w := by
  rcases h with ⟨rfl, h1, h2, h3, h4⟩ | ⟨rfl, h1, h2, h3, h4, h5⟩
  · exact uvarint_one g p L cap v w h1 hL2 h2 h3 h4
  · exact uvarint_two g p L cap v w h1 hL2 h2 h3 h4 h5

/-! ### The reader: its three cells lie at the head of block D. -/
set_option maxHeartbeats 800000 in
theorem number_any (D g p n cap : Nat) (v most : Int) (m : Nat) (what : ByteArray) (w : World)
    (hbuf : w.cell? ⟨D, 0, none⟩ = some (.slice (some ⟨g, 0, none⟩) n cap)) (hpos : w.cell? ⟨D, 1, none⟩ = some (.int .i64 p)) (herr : w.cell? ⟨D, 2, none⟩ = some (.pointer none))
    (hfz : w.frozen? ⟨D, 1, none⟩ = false) (hp : p < n) (hn : n ≤ 100000) (hcap : n ≤ cap) (huv : UvAt w g p (n - p) v m) (hm : m ≤ 2) (hmost : v ≤ most) :
    Calls Tryz.prog 103 #[.pointer (some ⟨D, 0, none⟩), .string what, .int .u64 most] w
      fun e w' => e = .returned (.int .u64 v) ∧ ∃ q, w' = (w.drewN q).setCell ⟨D, 1, none⟩ (.int .i64 ((p : Int) + (m : Int))) := by
  have HU : Hid (∀ q, UvAt (w.drewN q) g p (n - p) v m) := by
    intro q
    exact huv
  have hp1 : (0 : Int) ≤ (p : Int) := by omega
  have hp2 : (p : Int) ≤ (n : Int) := by omega
  have hnc : (n : Int) ≤ (cap : Int) := by omega
  have hp3 : p ≤ n := by omega
  clear huv
  go_enter Tryz.func103, Tryz.ntmps103
  go_wp2_with fail
  go_quiet ((go_at_call 225; exact Calls.quiet_of_same (uvarint_any _ _ _ _ _ _ _ (by omega) (HU.out _))))
  go_wp2
  go_ret
  exact ⟨rfl, nq, rfl⟩

set_option maxHeartbeats 800000 in
/-- 'fail' where no fault is known yet: the fault is laid in a new block. -/
theorem fail_any (D : Nat) (at' : Int) (reason : ByteArray) (w : World)
    (herr : w.cell? ⟨D, 2, none⟩ = some (.pointer none)) (hfz : w.frozen? ⟨D, 2, none⟩ = false) :
    Calls Tryz.prog 104 #[.pointer (some ⟨D, 0, none⟩), .int .i64 at', .string reason] w
      fun e w' => e = .returned (.tuple #[]) ∧ w' = (w.setCell ⟨D, 2, none⟩ (.pointer (some ⟨w.heap.size, 0, none⟩))).alloc (.cells #[.int .i64 at', .string reason] 220) := by
  have hlt : D < w.heap.size := cell_lt herr
  go_enter Tryz.func104, Tryz.ntmps104
  go_wp2
  go_end0
  exact ⟨rfl, rfl⟩

set_option maxHeartbeats 800000 in
/-- 'setFreeGen' below the last generation: one store. -/
theorem setFreeGen_any (A : Nat) (idx gen : Int) (x : Value) (w : World) (h0 : 0 ≤ idx) (h1 : idx < 320) (hg0 : 0 ≤ gen) (hg1 : gen < 4294967295)
    (hc : w.cell? ⟨A, idx.toNat * 8, none⟩ = some x) (hfz : w.frozen? ⟨A, idx.toNat * 8, none⟩ = false) :
    Calls Tryz.prog 105 #[.pointer (some ⟨A, 0, none⟩), .int .u16 idx, .int .u32 gen] w
      fun e w' => e = .returned (.tuple #[]) ∧ w' = w.setCell ⟨A, idx.toNat * 8, none⟩ (.int .u32 gen) := by
  have hne : (gen != 4294967295) = true := by rw [bne_iff_ne]; omega
  go_enter Tryz.func105, Tryz.ntmps105
  go_wp2
  exact bodyPost_ret (v := .tuple #[]) (by simp [results, Tryz.results105]) rfl ⟨rfl, rfl⟩
end Go.Proofs.Qxb6500847aGreatDoor.FloorA
