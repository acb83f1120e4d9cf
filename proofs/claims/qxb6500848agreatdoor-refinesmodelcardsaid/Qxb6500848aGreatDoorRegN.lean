/-
  reg, the fold of a loop's bounds, Range, their results told.
-/
import Derived.Test.Qxb6500848aGreatDoorBuildD
namespace Go.Proofs.Qxb6500848aGreatDoor
open Go.RowKit Pl Go.Maps
set_option maxRecDepth 100000

def stpL (l : List Nat) (c : Int) : List Nat := l.set (c / 64).toNat (Go.bits .or .u64 ((l.getD (c / 64).toNat 0 : Nat) : Int) (IntKind.u64.wrap (2 ^ (c % 64).toNat))).toNat
def runL : Nat → List Nat → Int → List Nat
  | 0, l, _ => l
  | n + 1, l, c => runL n (stpL l c) (c + 1)
def rangeL (lo hi : Int) : List Nat := runL (min hi 196607 + 1 - max lo 0).toNat (List.replicate 3072 0) (max lo 0)
theorem stp_lt (a b : Int) : (Go.bits .or .u64 a b).toNat < 2 ^ 64 := by
  obtain ⟨v, hv, e⟩ := bits_nat .or a b
  rw [e]
  simpa using hv
theorem stp_word {l : List Nat} {c : Int} (h : (c / 64).toNat < l.length) : Value.int .u64 (Go.bits .or .u64 (l[(c / 64).toNat] : Int) (IntKind.u64.wrap (2 ^ (c % 64).toNat))) = .int .u64 ((Go.bits .or .u64 ((l.getD (c / 64).toNat 0 : Nat) : Int) (IntKind.u64.wrap (2 ^ (c % 64).toNat))).toNat : Nat) := by
  rw [getD_lt h]
  obtain ⟨v, hv, e⟩ := bits_nat .or (l[(c / 64).toNat] : Int) (IntKind.u64.wrap (2 ^ (c % 64).toNat))
  rw [e]
  simp

set_option maxHeartbeats 2000000 in
theorem range_walkD (lo hi : Int) (w : World) : Calls Tryz.prog 101 #[.int .i64 lo, .int .i64 hi] w (NewCl (fun l => l = rangeL lo hi) w) := by
  have hm1 := run_make_row' (P := Tryz.prog) 53 120 (.int .u64 0) 8 Tryz.underlying53 info_u64 rfl .i64 .i64 3072 (by omega) (by omega)
  rw [show ((3072 : Nat) : Int) = 3072 from rfl] at hm1
  obtain ⟨m, em⟩ : ∃ m, max lo 0 = m := ⟨_, rfl⟩
  obtain ⟨h, eh⟩ : ∃ h, min hi 196607 = h := ⟨_, rfl⟩
  have HR : Hid (runL (h + 1 - m).toNat (List.replicate 3072 0) m = rangeL lo hi) := by show _ = _; unfold rangeL; rw [em, eh]
  have m0 : 0 ≤ m := by omega
  have h1 : h ≤ 196607 := by omega
  go_enter Tryz.func101, Tryz.ntmps101
  go_wp2
  go_loopw [6] (fun i wr => ∃ c : Int, 0 ≤ c ∧ i = .int .i64 c ∧ (∃ l, WB wr w.heap.size l ∧ Cl l ∧ runL (h + 1 - c).toNat l c = rangeL lo hi) ∧ Below w.heap.size w wr) (fun i _ => (h + 1 - intOf i).toNat)
  case atStart => exact ⟨m, m0, rfl, ⟨_, WB.new w 3072, cl_zero, HR.out⟩, alloc_below _⟩
  case round =>
    obtain ⟨c, hc, rfl, ⟨l, hW, hl, hR⟩, hb⟩ := hrel
    by_cases hlt : c ≤ h
    · have hd : c.tdiv 64 = c / 64 := Int.tdiv_eq_ediv_of_nonneg hc
      have hm : c.tmod 64 = c % 64 := Int.tmod_eq_emod_of_nonneg hc
      have q0 : 0 ≤ c / 64 := by omega
      have q1 : c / 64 < 3072 := by omega
      have r0 : 0 ≤ c % 64 := by omega
      have r1 : c % 64 < 64 := by omega
      have hi2 : (c / 64).toNat < l.length := by rw [hl.1]; omega
      obtain ⟨c1, c2⟩ := hW.cell hi2
      have HW := hideIt hW
      have Hl := hideIt hl
      have HB := hideIt hb
      have HN : Hid (∀ W : World, WB W w.heap.size l → ∃ l', WB (W.setCell ⟨w.heap.size, (c / 64).toNat, none⟩ (.int .u64 (Go.bits .or .u64 (l[(c / 64).toNat] : Int) (IntKind.u64.wrap (2 ^ (c % 64).toNat))))) w.heap.size l' ∧ Cl l' ∧ runL (h + 1 - (c + 1)).toNat l' (c + 1) = rangeL lo hi) := fun W hW => by
        refine ⟨stpL l c, ?_, ?_, ?_⟩
        · rw [stp_word hi2]
          exact hW.set _ _
        · exact hl.set (stp_lt _ _)
        · rw [← hR, show (h + 1 - c).toNat = (h + 1 - (c + 1)).toNat + 1 by omega]
          rfl
      generalize l[(c / 64).toNat] = u at *
      clear hW hl hb hR
      go_wp2_with fail
      go_region
      go_wp2_with fail
      go_roundw
      case rel => exact ⟨c + 1, by omega, by go_num, HN.out _ HW.out.drew, HB.out.drew.setCell (Nat.le_refl _) _⟩
      case measure => simp [intOf]; omega
    · have hlt' : h < c := by omega
      have HW := hideIt hW
      clear hW
      go_wp2
      go_ret
      exact ⟨_, l, rfl, HW.out, hl, by rw [← hR, show (h + 1 - c).toNat = 0 by omega]; rfl, Nat.le_refl _, hb⟩

set_option maxHeartbeats 2000000 in
theorem reg_walkD {X : Nat → Prop} {w : World} {kb eb mb ab nb : Nat} {lim : Int} {A : List Nd} {regs : List Int} (hM : Mc X w kb eb mb ab nb lim A regs) (hne : regs ≠ []) (hl : regs.length ≤ 9) (i : Int) :
    Calls Tryz.prog 67 #[.pointer (some ⟨kb, 0, none⟩), .int .i64 i] w fun e w' => ∃ r, Sm A r ∧ r = regs.getD (i % (regs.length : Int)).toNat 0 ∧ e = .returned (.int .i64 r) ∧ w' = w.drew := by
  obtain ⟨rv, k0, k1, k2, hR⟩ := hM.cells
  have hpos : 0 < regs.length := List.length_pos_iff.2 hne
  have n0 : (0 : Int) < (regs.length : Int) := by omega
  have q0 : 0 ≤ i % (regs.length : Int) := Int.emod_nonneg _ (by omega)
  have q1 : i % (regs.length : Int) < (regs.length : Int) := Int.emod_lt_of_pos _ n0
  have hj : (i % (regs.length : Int)).toNat < regs.length := by omega
  obtain ⟨rb, off, cap, rfl, hc⟩ := hR.at hj
  have Hv := hideIt (hM.val _ (List.getElem_mem hj))
  have Hr : Hid (regs[(i % (regs.length : Int)).toNat] = regs.getD (i % (regs.length : Int)).toNat 0) := (getD_lt hj 0).symm
  obtain ⟨r, er⟩ : ∃ r, regs[(i % (regs.length : Int)).toNat] = r := ⟨_, rfl⟩
  rw [er] at Hv Hr hc
  clear er
  have Hf := hideIt (fun W => fold_walk i (regs.length : Int) n0 (by omega) W)
  clear hM hR hne hj
  have HQ : Hid (∀ z : Int, z = regs.getD (i % (regs.length : Int)).toNat 0 → z = regs.getD (i % (regs.length : Int)).toNat 0) := fun _ h => h
  generalize hm : i % (regs.length : Int) = m at *
  have Hm := hideIt hm
  clear hm
  go_enter Tryz.func67, Tryz.ntmps67
  go_wp2_with fail
  go_region_held3 (fun w' => w'.cell? ⟨kb, 2, none⟩ = some (.slice (some ⟨rb, off, none⟩) regs.length cap) ∧ w'.cell? ⟨rb, off + m.toNat, none⟩ = some (.int .i64 r)) (go_keep)
    (first | (go_at_call 46; refine (Hf.out _).mono ?_; rintro e w' ⟨rfl, rfl⟩))
  all_goals
    go_wp2_with fail
    go_ret
    exact ⟨r, Hv.out, Hr.out, rfl, rfl⟩

theorem fold6_walkD (i : Int) (w : World) : Calls Tryz.prog 111 #[.int .i64 i] w fun e w' => ∃ r, 0 ≤ r ∧ r ≤ 5 ∧ r = i % 6 ∧ e = .returned (.int .i64 r) ∧ w' = w := by
  have q0 : 0 ≤ i % 6 := Int.emod_nonneg _ (by omega)
  have q1 : i % 6 ≤ 5 := by have := Int.emod_lt_of_pos i (show (0 : Int) < 6 by omega); omega
  generalize hm : i % 6 = m at *
  have Hf := hideIt (fun W => fold_walk i 6 (by decide) (by decide) W)
  have Hm := hideIt hm
  clear hm
  go_enter Tryz.func111, Tryz.ntmps111
  go_wp2_with (go_at_call 46; refine (Hf.out _).mono ?_; rintro e w' ⟨rfl, rfl⟩; rw [Hm.out])
  go_ret
  exact ⟨m, q0, q1, rfl, rfl, rfl⟩

attribute [irreducible] rangeL
end Go.Proofs.Qxb6500848aGreatDoor
