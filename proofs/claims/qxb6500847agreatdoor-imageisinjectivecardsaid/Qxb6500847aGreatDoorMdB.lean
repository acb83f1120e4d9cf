/-
  The abstract model: spare, countType.
-/
import Derived.Test.Qxb6500847aGreatDoorMdA
namespace Go.Proofs.Qxb6500847aGreatDoor.Os
open Go.RowKit FloorA
set_option maxRecDepth 100000
theorem inf3 : (Tryz.prog.info? 3).map (fun i => (i.zero, i.size, i.bytes)) = some (some (.int .i64 0), 1, 8) := by kernel_rfl
/-- Numbers as ints. -/
def ILs (l : List Nat) : List Value := l.map (fun i => Value.int .i64 ((i : Nat) : Int))
theorem ILs_snoc (l : List Nat) (i : Nat) : ILs (l ++ [i]) = ILs l ++ [Value.int .i64 ((i : Nat) : Int)] := by simp [ILs]
theorem one_i (a : Int) : ∀ u ∈ [Value.int .i64 a], u.oneCell' = true := by
  intro u hu
  simp at hu
  subst hu
  rfl
theorem spr_succ (M : Nat → En) (lo k : Nat) : spr M lo (k + 1) = if lo ≤ k ∧ (M k).typ = 0 ∧ (M k).gen < 4294967295 then spr M lo k ++ [k] else spr M lo k := by
  unfold spr
  rw [List.range_succ, List.filter_append]
  by_cases h : lo ≤ k ∧ (M k).typ = 0 ∧ (M k).gen < 4294967295
  · rw [if_pos h]; simp [h]
  · rw [if_neg h, List.filter_cons_of_neg (by simpa using h)]; simp
theorem spr_lo (M : Nat → En) (lo : Nat) : spr M lo lo = [] := by
  unfold spr
  rw [List.filter_eq_nil_iff]
  intro a ha
  have := List.mem_range.1 ha
  simp
  omega
theorem spr_le (M : Nat → En) (lo k : Nat) : (spr M lo k).length ≤ k := by
  unfold spr
  exact Nat.le_trans (List.length_filter_le _ _) (by simp)
def IOwn (base : Nat) (w : World) (v : Value) (l : List Nat) : Prop := w.ownsRow base 3 1 v l.length (ILs l)
theorem IOwn.nil (base : Nat) (w : World) : IOwn base w (.slice none 0 0) [] := ⟨rfl, Or.inl ⟨rfl, rfl⟩⟩
theorem Grown.below {w w' : World} {base : Nat} {o : Obj} {r : Option Nat} (hB : base ≤ w.heap.size) (hg : (w.alloc o).grownBy w' r) (hr : ∀ b, r = some b → base ≤ b) : Below base w w' := by
  have hsz : (w.alloc o).heap.size = w.heap.size + 1 := by simp
  exact ⟨hg.os, hg.tape, hg.output, Nat.le_trans (by rw [hsz]; omega) hg.size, fun k hk => (hg.block k (by rw [hsz]; omega) (fun q => by have := hr k q.symm; omega)).trans (heap_alloc_old _ _ (by omega))⟩
section
variable {w : World} {B : Nat} {wb : Nat → Nat} {M : Nat → En}
set_option maxHeartbeats 4000000 in
theorem spare_1 (h : Md w B wb M) (hM : Mk M) :
    Calls Tryz.prog 205 #[.pointer (some ⟨B, 0, none⟩), .int .u8 1] w fun e w' => ∃ v, e = .returned v ∧ IOwn w.heap.size w' v (spr M 256 320) ∧ Below w.heap.size w w' := by
  obtain ⟨i3, hi3, hz3, hs3, hb3⟩ := info_parts inf3
  have HM := hideIt h
  have HK := hideIt hM
  clear h hM
  go_enter Tryz.func205, Tryz.ntmps205
  go_wp2_with fail
  go_loopw [7, 8] (fun v7 v8 wr => ∃ k : Nat, 256 ≤ k ∧ k ≤ 320 ∧ v8 = .int .i64 (k : Int) ∧ IOwn w.heap.size wr v7 (spr M 256 k) ∧ Below w.heap.size w wr) (fun _ i _ => 320 - (intOf i).toNat)
  case atStart => exact ⟨256, by omega, by omega, rfl, by rw [spr_lo]; exact IOwn.nil _ _, Below.refl _ _⟩
  case round =>
    obtain ⟨k, hk0, hk, rfl, hown, hbr⟩ := hrel
    have HO := hideIt hown
    have HB := hideIt hbr
    by_cases hlt : k < 320
    · have hlt' : (k : Int) < 320 := by omega
      have k3 : k < 320 := by omega
      have k4 : (k : Int) < 320 := by omega
      have hm := HM.out.below hbr
      have HL := hideIt (live_m hm k3)
      have hg := hm.gen k3
      have hs := spr_succ M 256 k
      clear hown hbr hm
      by_cases ht : (M k).typ = 0
      · have hd : decide ((M k).typ ≠ 0) = false := by simp [ht]
        rw [hd] at HL
        by_cases hge : (M k).gen < 4294967295
        · rw [if_pos ⟨hk0, ht, hge⟩] at hs
          have HS := hideIt hs
          have HLn := hideIt (spr_le M 256 k)
          have HBw := hideIt HB.out.size
          clear hs hd ht
          go_wp2_with (first | (go_at_call 203; refine HL.out.mono ?_; rintro e w' ⟨rfl, hw'⟩; obtain rfl := hw'.symm) | (at_builtin; refine wpList_append_own_at _ rfl (.tmp 31) (.tmp 33) 209 rfl w.heap.size 3 i3 (.int .i64 0) 1 8 Tryz.underlying209 hi3 hz3 hs3 hb3 rfl (by decide) _ _ _ rfl (World.ownsRow.alloc HO.out _) ⟨wr.heap.size, 0, none⟩ 1 1 [.int .i64 (k : Int)] rfl rfl (cell_one_new wr _ _) (one_i _) (by have := HLn.out; unfold maxLen; omega) (by have := HLn.out; omega) (by have := HBw.out; simp; omega) ?_; intro v' w8 hown8 hgrow8 _ hwh8; have HB8 := hideIt (HB.out.trans (Grown.below HBw.out hgrow8 (fun b hb => (owns_lt HO.out b hb).1))); have HO8 := hideIt hown8; clear hown8 hgrow8 hwh8))
          go_roundw
          case rel => exact ⟨k + 1, by omega, by omega, by go_num, by rw [HS.out]; unfold IOwn; rw [ILs_snoc, List.length_append]; exact HO8.out, HB8.out⟩
          case measure => simp [intOf]; omega
        · rw [if_neg (fun q => hge q.2.2)] at hs
          have HS := hideIt hs
          clear hs hd ht
          go_wp2_with (go_at_call 203; refine HL.out.mono ?_; rintro e w' ⟨rfl, hw'⟩; obtain rfl := hw'.symm)
          go_roundw
          case rel => exact ⟨k + 1, by omega, by omega, by go_num, by rw [HS.out]; exact HO.out, HB.out⟩
          case measure => simp [intOf]; omega
      · have hd : decide ((M k).typ ≠ 0) = true := by simp [ht]
        rw [hd] at HL
        rw [if_neg (fun q => ht q.2.1)] at hs
        have HS := hideIt hs
        clear hs hd ht
        go_wp2_with (go_at_call 203; refine HL.out.mono ?_; rintro e w' ⟨rfl, hw'⟩; obtain rfl := hw'.symm)
        go_roundw
        case rel => exact ⟨k + 1, by omega, by omega, by go_num, by rw [HS.out]; exact HO.out, HB.out⟩
        case measure => simp [intOf]; omega
    · have hkh : k = 320 := by omega
      subst hkh
      clear hown hbr
      go_wp2_with fail
      go_ret
      exact ⟨_, rfl, HO.out, HB.out⟩
set_option maxHeartbeats 4000000 in
theorem spare_0 (h : Md w B wb M) (hM : Mk M) {t : Nat} (ht1 : ((t : Int) == 1) = false) :
    Calls Tryz.prog 205 #[.pointer (some ⟨B, 0, none⟩), .int .u8 (t : Int)] w fun e w' => ∃ v, e = .returned v ∧ IOwn w.heap.size w' v (spr M 0 256) ∧ Below w.heap.size w w' := by
  obtain ⟨i3, hi3, hz3, hs3, hb3⟩ := info_parts inf3
  have HM := hideIt h
  have HK := hideIt hM
  clear h hM
  go_enter Tryz.func205, Tryz.ntmps205
  go_wp2_with fail
  go_loopw [7, 8] (fun v7 v8 wr => ∃ k : Nat, 0 ≤ k ∧ k ≤ 256 ∧ v8 = .int .i64 (k : Int) ∧ IOwn w.heap.size wr v7 (spr M 0 k) ∧ Below w.heap.size w wr) (fun _ i _ => 256 - (intOf i).toNat)
  case atStart => exact ⟨0, by omega, by omega, rfl, by rw [spr_lo]; exact IOwn.nil _ _, Below.refl _ _⟩
  case round =>
    obtain ⟨k, hk0, hk, rfl, hown, hbr⟩ := hrel
    have HO := hideIt hown
    have HB := hideIt hbr
    by_cases hlt : k < 256
    · have hlt' : (k : Int) < 256 := by omega
      have k3 : k < 320 := by omega
      have k4 : (k : Int) < 320 := by omega
      have hm := HM.out.below hbr
      have HL := hideIt (live_m hm k3)
      have hg := hm.gen k3
      have hs := spr_succ M 0 k
      clear hown hbr hm
      by_cases ht : (M k).typ = 0
      · have hd : decide ((M k).typ ≠ 0) = false := by simp [ht]
        rw [hd] at HL
        by_cases hge : (M k).gen < 4294967295
        · rw [if_pos ⟨hk0, ht, hge⟩] at hs
          have HS := hideIt hs
          have HLn := hideIt (spr_le M 0 k)
          have HBw := hideIt HB.out.size
          clear hs hd ht
          go_wp2_with (first | (go_at_call 203; refine HL.out.mono ?_; rintro e w' ⟨rfl, hw'⟩; obtain rfl := hw'.symm) | (at_builtin; refine wpList_append_own_at _ rfl (.tmp 31) (.tmp 33) 209 rfl w.heap.size 3 i3 (.int .i64 0) 1 8 Tryz.underlying209 hi3 hz3 hs3 hb3 rfl (by decide) _ _ _ rfl (World.ownsRow.alloc HO.out _) ⟨wr.heap.size, 0, none⟩ 1 1 [.int .i64 (k : Int)] rfl rfl (cell_one_new wr _ _) (one_i _) (by have := HLn.out; unfold maxLen; omega) (by have := HLn.out; omega) (by have := HBw.out; simp; omega) ?_; intro v' w8 hown8 hgrow8 _ hwh8; have HB8 := hideIt (HB.out.trans (Grown.below HBw.out hgrow8 (fun b hb => (owns_lt HO.out b hb).1))); have HO8 := hideIt hown8; clear hown8 hgrow8 hwh8))
          go_roundw
          case rel => exact ⟨k + 1, by omega, by omega, by go_num, by rw [HS.out]; unfold IOwn; rw [ILs_snoc, List.length_append]; exact HO8.out, HB8.out⟩
          case measure => simp [intOf]; omega
        · rw [if_neg (fun q => hge q.2.2)] at hs
          have HS := hideIt hs
          clear hs hd ht
          go_wp2_with (go_at_call 203; refine HL.out.mono ?_; rintro e w' ⟨rfl, hw'⟩; obtain rfl := hw'.symm)
          go_roundw
          case rel => exact ⟨k + 1, by omega, by omega, by go_num, by rw [HS.out]; exact HO.out, HB.out⟩
          case measure => simp [intOf]; omega
      · have hd : decide ((M k).typ ≠ 0) = true := by simp [ht]
        rw [hd] at HL
        rw [if_neg (fun q => ht q.2.1)] at hs
        have HS := hideIt hs
        clear hs hd ht
        go_wp2_with (go_at_call 203; refine HL.out.mono ?_; rintro e w' ⟨rfl, hw'⟩; obtain rfl := hw'.symm)
        go_roundw
        case rel => exact ⟨k + 1, by omega, by omega, by go_num, by rw [HS.out]; exact HO.out, HB.out⟩
        case measure => simp [intOf]; omega
    · have hkh : k = 256 := by omega
      subst hkh
      clear hown hbr
      go_wp2_with fail
      go_ret
      exact ⟨_, rfl, HO.out, HB.out⟩
theorem spare_m (h : Md w B wb M) (hM : Mk M) (t : Nat) :
    Calls Tryz.prog 205 #[.pointer (some ⟨B, 0, none⟩), .int .u8 (t : Int)] w fun e w' => ∃ v, e = .returned v ∧ IOwn w.heap.size w' v (spr M (loT t) (hiT t)) ∧ Below w.heap.size w w' := by
  unfold loT hiT
  by_cases ht : t = 1
  · subst ht
    exact spare_1 h hM
  · rw [if_neg ht, if_neg ht]
    exact spare_0 h hM (by rw [beq_eq_false_iff_ne]; omega)
/-- The entries of a type among the first k. -/
def cntT (M : Nat → En) (t : Nat) (k : Nat) : Int := sumF (fun i => one ((M i).typ = (t : Int))) k
theorem cntT_rng (M : Nat → En) (t k : Nat) : 0 ≤ cntT M t k ∧ cntT M t k ≤ (k : Int) := by
  induction k with
  | zero => exact ⟨by simp [cntT, sumF], by simp [cntT, sumF]⟩
  | succ k ih =>
    have e : cntT M t (k + 1) = cntT M t k + one ((M k).typ = (t : Int)) := rfl
    have : 0 ≤ one ((M k).typ = (t : Int)) ∧ one ((M k).typ = (t : Int)) ≤ 1 := by unfold one; split <;> omega
    omega
set_option maxHeartbeats 2000000 in
theorem count_m (h : Md w B wb M) (t : Nat) :
    Calls Tryz.prog 275 #[.pointer (some ⟨B, 0, none⟩), .int .u8 (t : Int)] w fun e w' => e = .returned (.int .i64 (cntT M t 320)) ∧ w' = w := by
  have HM := hideIt h
  clear h
  go_enter Tryz.func275, Tryz.ntmps275
  go_wp2_with fail
  go_loopw [5, 7] (fun v5 v7 wr => ∃ k : Nat, k ≤ 320 ∧ v7 = .int .i64 (k : Int) ∧ v5 = .int .i64 (cntT M t k) ∧ wr = w) (fun _ i _ => 320 - (intOf i).toNat)
  case atStart => exact ⟨0, by omega, rfl, rfl, rfl⟩
  case round =>
    obtain ⟨k, hk, rfl, rfl, rfl⟩ := hrel
    by_cases hlt : k < 320
    · have hlt' : (k : Int) < 320 := by omega
      have ht := HM.out.typ hlt
      have hr := cntT_rng M t k
      have e : cntT M t (k + 1) = cntT M t k + one ((M k).typ = (t : Int)) := rfl
      by_cases q : (M k).typ = (t : Int)
      · have e2 : cntT M t (k + 1) = cntT M t k + 1 := by rw [e]; unfold one; rw [if_pos q]
        have HE := hideIt e2
        rw [q] at ht
        clear e e2 q
        generalize cntT M t k = c at *
        go_wp2_with fail
        go_roundw
        case rel => exact ⟨k + 1, by omega, by go_num, by rw [HE.out], trivial⟩
        case measure => simp [intOf]; omega
      · have e2 : cntT M t (k + 1) = cntT M t k := by rw [e]; unfold one; rw [if_neg q]; omega
        have HE := hideIt e2
        have hb : ((M k).typ == (t : Int)) = false := by rw [beq_eq_false_iff_ne]; exact q
        clear e e2 q
        generalize cntT M t k = c at *
        go_wp2_with fail
        go_roundw
        case rel => exact ⟨k + 1, by omega, by go_num, by rw [HE.out], trivial⟩
        case measure => simp [intOf]; omega
    · have hkh : k = 320 := by omega
      subst hkh
      go_wp2_with fail
      go_ret
      exact ⟨rfl, rfl⟩
end
end Go.Proofs.Qxb6500847aGreatDoor.Os
