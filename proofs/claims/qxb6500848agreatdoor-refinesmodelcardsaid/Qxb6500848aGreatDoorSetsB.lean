/-
  Range, TrailingZeros64, Min.
-/
import Derived.Test.Qxb6500848aGreatDoorSetsA
namespace Go.Proofs.Qxb6500848aGreatDoor
open Go.RowKit Pl
set_option maxRecDepth 100000

theorem WB.setAny {w : World} {b : Nat} {l : List Nat} (h : WB w b l) (hl : Cl l) (k : Nat) (op : BinOp) (a c : Int) : ∃ l', WB (w.setCell ⟨b, k, none⟩ (.int .u64 (Go.bits op .u64 a c))) b l' ∧ Cl l' := by
  obtain ⟨v, hv, e⟩ := bits_nat op a c
  rw [e]
  exact ⟨_, h.set k v, hl.set hv⟩
theorem WB.drew {w : World} {b : Nat} {l : List Nat} (h : WB w b l) : WB w.drew b l := h

set_option maxHeartbeats 2000000 in
theorem range_walk (lo hi : Int) (w : World) : Calls Tryz.prog 101 #[.int .i64 lo, .int .i64 hi] w (NewCl (fun _ => True) w) := by
  have hm1 := run_make_row' (P := Tryz.prog) 53 120 (.int .u64 0) 8 Tryz.underlying53 info_u64 rfl .i64 .i64 3072 (by omega) (by omega)
  rw [show ((3072 : Nat) : Int) = 3072 from rfl] at hm1
  obtain ⟨m, em⟩ : ∃ m, max lo 0 = m := ⟨_, rfl⟩
  obtain ⟨h, eh⟩ : ∃ h, min hi 196607 = h := ⟨_, rfl⟩
  have m0 : 0 ≤ m := by omega
  have h1 : h ≤ 196607 := by omega
  go_enter Tryz.func101, Tryz.ntmps101
  go_wp2
  go_loopw [6] (fun i wr => ∃ c : Int, 0 ≤ c ∧ i = .int .i64 c ∧ (∃ l, WB wr w.heap.size l ∧ Cl l) ∧ Below w.heap.size w wr) (fun i _ => (h + 1 - intOf i).toNat)
  case atStart => exact ⟨m, m0, rfl, ⟨_, WB.new w 3072, cl_zero⟩, alloc_below _⟩
  case round =>
    obtain ⟨c, hc, rfl, ⟨l, hW, hl⟩, hb⟩ := hrel
    by_cases hlt : c ≤ h
    · have hd : c.tdiv 64 = c / 64 := Int.tdiv_eq_ediv_of_nonneg hc
      have hm : c.tmod 64 = c % 64 := Int.tmod_eq_emod_of_nonneg hc
      have q0 : 0 ≤ c / 64 := by omega
      have q1 : c / 64 < 3072 := by omega
      have r0 : 0 ≤ c % 64 := by omega
      have r1 : c % 64 < 64 := by omega
      have hi2 : (c / 64).toNat < l.length := by rw [hl.1]; omega
      obtain ⟨c1, c2⟩ := hW.cell hi2
      have HW := hideIt hW
      have Hl := hideIt hl
      have HB := hideIt hb
      generalize l[(c / 64).toNat] = u at *
      clear hW hl hb
      go_wp2_with fail
      go_region
      go_wp2_with fail
      go_roundw
      case rel => exact ⟨c + 1, by omega, by go_num, HW.out.drew.setAny Hl.out _ _ _ _, HB.out.drew.setCell (Nat.le_refl _) _⟩
      case measure => simp [intOf]; omega
    · have hlt' : h < c := by omega
      have HW := hideIt hW
      clear hW
      go_wp2
      go_ret
      exact ⟨_, l, rfl, HW.out, hl, trivial, Nat.le_refl _, hb⟩

/-- The table of math/bits. -/
def Gd (tab : Nat → Int) (w : World) : Prop := ∀ j, j < 64 → w.cell? ⟨3, j, none⟩ = some (.int .u8 (tab j))
theorem Gd.below {tab : Nat → Int} {w w' : World} {B : Nat} (h : Gd tab w) (k : Below B w w') (hB : 3 < B) : Gd tab w' := fun j hj => (k.cell (p := ⟨3, j, none⟩) hB).trans (h j hj)

def tzI (x : Nat) : Int := IntKind.u64.wrap (Go.bits .and .u64 (x : Int) (IntKind.u64.wrap (-(x : Int))) * 285870213051353865) / 288230376151711744
def tzF (tab : Nat → Int) (x : Nat) : Int := if x = 0 then 64 else tab (tzI x).toNat

theorem wrap_u64_bd (t : Int) : 0 ≤ IntKind.u64.wrap t ∧ IntKind.u64.wrap t < 18446744073709551616 := by
  simp [IntKind.wrap, IntKind.bits, IntKind.signed]; omega

set_option maxHeartbeats 1000000 in
theorem tz_walk {tab : Nat → Int} (ht : ∀ j, j < 64 → 0 ≤ tab j ∧ tab j ≤ 255) (x : Nat) (hx : x < 2 ^ 64) {w : World} (hg : Gd tab w) : Calls Tryz.prog 77 #[.int .u64 x] w fun e w' => e = .returned (.int .i64 (tzF tab x)) ∧ w' = w := by
  by_cases h0 : x = 0
  · subst h0
    go_enter Tryz.func77, Tryz.ntmps77
    go_wp2
    go_ret
    exact ⟨by simp [tzF], rfl⟩
  · have h0' : ((x : Int) == 0) = false := by rw [beq_eq_false_iff_ne]; omega
    have e1 : tzF tab x = tab (tzI x).toNat := if_neg h0
    rw [e1]
    unfold tzI
    have bd := wrap_u64_bd (Go.bits .and .u64 (x : Int) (IntKind.u64.wrap (-(x : Int))) * 285870213051353865)
    obtain ⟨y, ey⟩ : ∃ y, IntKind.u64.wrap (Go.bits .and .u64 (x : Int) (IntKind.u64.wrap (-(x : Int))) * 285870213051353865) = y := ⟨_, rfl⟩
    rw [ey] at bd ⊢
    have i0 : 0 ≤ y / 288230376151711744 := by omega
    have i1 : y / 288230376151711744 < 64 := by omega
    have g0 := hg (y / 288230376151711744).toNat (by omega)
    have t0 := ht (y / 288230376151711744).toNat (by omega)
    generalize tab (y / 288230376151711744).toNat = t at *
    obtain ⟨t1, t2⟩ := t0
    clear hg ht e1 bd
    go_enter Tryz.func77, Tryz.ntmps77
    go_wp2
    go_ret
    exact ⟨rfl, rfl⟩

/-- The place of the first word that is not 0. -/
def fz (l : List Nat) : Nat := l.findIdx (fun b => b != 0)
def minF (tab : Nat → Int) (l : List Nat) : Int := (fz l : Int) * 64 + tzF tab (l.getD (fz l) 0)

theorem fz_lt {l : List Nat} (h : ∃ b ∈ l, b ≠ 0) : fz l < l.length := by
  obtain ⟨b, hb, h0⟩ := h
  exact List.findIdx_lt_length_of_exists ⟨b, hb, by simpa using h0⟩
theorem fz_at {l : List Nat} (h : fz l < l.length) : l[fz l] ≠ 0 := by
  have h' : l.findIdx (fun b => b != 0) < l.length := h
  have := List.findIdx_getElem (w := h')
  intro e
  have e' : l[l.findIdx (fun b => b != 0)] = 0 := e
  rw [e'] at this
  simp at this
theorem fz_before {l : List Nat} {j : Nat} (h : j < fz l) (hl : j < l.length) : l[j] = 0 := by
  have := List.not_of_lt_findIdx h
  simpa using this

theorem tzF_bd {tab : Nat → Int} (ht : ∀ j, j < 64 → 0 ≤ tab j ∧ tab j ≤ 255) (x : Nat) : 0 ≤ tzF tab x ∧ tzF tab x ≤ 255 := by
  unfold tzF
  split
  · omega
  · have bd := wrap_u64_bd (Go.bits .and .u64 (x : Int) (IntKind.u64.wrap (-(x : Int))) * 285870213051353865)
    exact ht _ (by unfold tzI; omega)

set_option maxHeartbeats 1000000 in
theorem min_walk {tab : Nat → Int} (ht : ∀ j, j < 64 → 0 ≤ tab j ∧ tab j ≤ 255) {X : Nat → Prop} {w : World} (hg : Gd tab w) {sv : Value} {l : List Nat} (h : Words X w sv l) (hl : Cl l) (hn : ∃ b ∈ l, b ≠ 0) :
    Calls Tryz.prog 23 #[sv] w fun e w' => e = .returned (.int .i64 (minF tab l)) ∧ w' = w := by
  have hf := fz_lt hn
  have hl1 := hl.1
  obtain ⟨ad, cap, rfl, _, _, h3⟩ := h
  obtain ⟨g, o, rfl, _, hc⟩ := h3 (fun e => by rw [e] at hl1; cases hl1)
  have HC := hideIt hc
  have Hl := hideIt hl
  have Hg := hideIt hg
  have Ht := hideIt ht
  clear h3 hc hl hn hg ht
  rw [hl1]
  have hf2 : fz l < 3072 := by omega
  go_enter Tryz.func23, Tryz.ntmps23
  go_wp2
  go_loopw [3] (fun i wr => ∃ k : Nat, k ≤ fz l ∧ i = .int .i64 k ∧ wr = w) (fun i _ => fz l - (intOf i).toNat)
  case atStart => exact ⟨0, by omega, rfl, rfl⟩
  case round =>
    obtain ⟨k, hk, rfl, rfl⟩ := hrel
    have hkl : k < l.length := by omega
    have hk' : (k : Int) < 3072 := by omega
    have c0 := HC.out k hkl
    by_cases hlt : k < fz l
    · have e0 := fz_before hlt hkl
      rw [e0] at c0
      go_wp2
      go_roundw
      case rel => exact ⟨k + 1, by omega, by go_num, trivial⟩
      case measure => simp [intOf]; omega
    · obtain rfl : k = fz l := by omega
      have e0 := fz_at hf
      have hb := Hl.out.2 _ (List.getElem_mem hkl)
      have tb := tzF_bd Ht.out l[fz l]
      have em : minF tab l = (fz l : Int) * 64 + tzF tab l[fz l] := by unfold minF; rw [getD_lt hf]
      generalize l[fz l] = x at *
      have e0' : ((x : Int) == 0) = false := by rw [beq_eq_false_iff_ne]; omega
      obtain ⟨t, et⟩ : ∃ t, tzF tab x = t := ⟨_, rfl⟩
      rw [et] at tb em
      have Hem := hideIt em
      clear em
      obtain ⟨t1, t2⟩ := tb
      go_wp2_with (go_at_call 77; refine (tz_walk Ht.out x hb Hg.out).mono ?_; rintro e w1 ⟨rfl, rfl⟩; rw [et])
      go_ret
      exact ⟨ret_int Hem.out.symm, rfl⟩
end Go.Proofs.Qxb6500848aGreatDoor
