/-
  Arena.Live: the live entries' references.
-/
import Derived.Test.Qxb6500847aGreatDoorMdO
import Derived.Test.Qxb6500847aGreatDoorMdH
import Derived.Test.Qxb6500847aGreatDoorOsSv
namespace Go.Proofs.Qxb6500847aGreatDoor.Os
open Go.RowKit FloorA
set_option maxRecDepth 100000
/-- The live entries among the first k. -/
def lvR (M : Nat → En) (k : Nat) : List (Nat × Int) := ((List.range k).filter (fun i => decide ((M i).typ ≠ 0))).map (fun i => (i, (M i).gen))
theorem lvR_succ (M : Nat → En) (k : Nat) : lvR M (k + 1) = lvR M k ++ if (M k).typ = 0 then [] else [(k, (M k).gen)] := by
  unfold lvR
  rw [List.range_succ, List.filter_append, List.map_append]
  congr 1
  by_cases h : (M k).typ = 0 <;> simp [h]
theorem lvR_le (M : Nat → En) (k : Nat) : (lvR M k).length ≤ k := by
  unfold lvR
  rw [List.length_map]
  exact Nat.le_trans (List.length_filter_le _ _) (by simp)
section
variable {A : Nat} {rb sb : Nat → Nat} {s : Av} {tl : Nat → List Int} {ws : Nat → Nat → Nat → Int} {w : World} {L : Nat → List Nat} {n : Nat}
theorem lv_rng (hX : IX s tl L n) {k : Nat} (hk : k < 8) : 0 ≤ s.lv k ∧ s.lv k ≤ 320 := by
  by_cases h : k = 0
  · rw [h, hX.ct.l0]; omega
  · rw [hX.ct.lv k (by omega) (by omega)]
    exact sumF_one (fun i _ => one_01 _)
set_option maxHeartbeats 8000000 in
theorem Live_x (h : Ms w A rb sb s tl ws) (hX : IX s tl L n) :
    Calls Tryz.prog 94 #[.pointer (some ⟨A, 0, none⟩)] w fun e w' => ∃ v, e = .returned v ∧ ROwn w.heap.size w' v (lvR (ob s ws) 320) ∧ Below w.heap.size w w' := by
  obtain ⟨i2, hi2, hz2, hs2, hb2⟩ := info_parts inf32
  have HM := hideIt h
  have c0 : w.cell? ⟨A, 2898, none⟩ = some (.int .i64 (s.lv 0)) := h.lvc (k := 0) (by omega)
  have c1 : w.cell? ⟨A, 2899, none⟩ = some (.int .i64 (s.lv 1)) := h.lvc (k := 1) (by omega)
  have c2 : w.cell? ⟨A, 2900, none⟩ = some (.int .i64 (s.lv 2)) := h.lvc (k := 2) (by omega)
  have c3 : w.cell? ⟨A, 2901, none⟩ = some (.int .i64 (s.lv 3)) := h.lvc (k := 3) (by omega)
  have c4 : w.cell? ⟨A, 2902, none⟩ = some (.int .i64 (s.lv 4)) := h.lvc (k := 4) (by omega)
  have c5 : w.cell? ⟨A, 2903, none⟩ = some (.int .i64 (s.lv 5)) := h.lvc (k := 5) (by omega)
  have c6 : w.cell? ⟨A, 2904, none⟩ = some (.int .i64 (s.lv 6)) := h.lvc (k := 6) (by omega)
  have c7 : w.cell? ⟨A, 2905, none⟩ = some (.int .i64 (s.lv 7)) := h.lvc (k := 7) (by omega)
  have HLR : Hid (∀ k, k < 8 → 0 ≤ s.lv k ∧ s.lv k ≤ 320) := fun k hk => lv_rng hX hk
  have HEI : Hid (∀ i, i < 320 → (ob s ws i).typ = (s.hd i).typ ∧ (ob s ws i).gen = (s.hd i).gen) := fun i hi => by rw [ob_at _ _ hi]; exact ⟨rfl, rfl⟩
  generalize s.lv = y at *
  clear h hX
  go_enter Tryz.func94, Tryz.ntmps94
  go_wp2_with fail
  clear c0 c1 c2 c3 c4 c5 c6 c7
  go_loopw [3, 12] (fun v3 v12 wr => ∃ (k : Nat) (T : Int), k ≤ 8 ∧ v12 = .int .i64 (k : Int) ∧ v3 = .int .i64 T ∧ 0 ≤ T ∧ T ≤ 320 * (k : Int) ∧ wr = w) (fun _ i _ => 8 - (intOf i).toNat)
  case atStart => exact ⟨0, 0, by omega, rfl, rfl, by omega, by omega, rfl⟩
  case round =>
    obtain ⟨k, T, hk, rfl, rfl, hT0, hT1, hwr⟩ := hrel
    obtain rfl := hwr.symm
    clear hwr
    by_cases hlt : k < 8
    · have hlt' : (k : Int) < 8 := by omega
      have hix := fun w => ix51 y hlt w
      obtain ⟨b0, b1⟩ := HLR.out k hlt
      have kw : IntKind.i64.wrap (T + y k) = T + y k := by unfold IntKind.wrap; simp [IntKind.bits, IntKind.signed]; omega
      have HTK : Hid (0 ≤ T + y k ∧ T + y k ≤ 320 * ((k + 1 : Nat) : Int)) := ⟨by omega, by omega⟩
      clear b0 b1 hT0 hT1
      generalize y k = yk at *
      go_wp2_with fail
      go_roundw
      case rel => exact ⟨k + 1, T + yk, by omega, by go_num, by first | rfl | rw [kw], HTK.out.1, HTK.out.2, by trivial⟩
      case measure => simp [intOf]; omega
    · obtain rfl : k = 8 := by omega
      obtain ⟨c, rfl⟩ : ∃ c : Nat, T = (c : Int) := ⟨T.toNat, by omega⟩
      have hc : c ≤ 2560 := by omega
      clear hT0 hT1
      go_wp2_with (at_make; refine wpList_make_own _ rfl _ _ 55 rfl w.heap.size 32 i2 (.agg #[.int .u16 0, .int .u32 0]) 2 Tryz.underlying55 hi2 hz2 hs2 .i64 .i64 (c : Int) c rfl rfl rfl (by rw [hb2]; omega) (by unfold maxLen; omega) (Nat.le_refl _) ?_; intro w1 hown1 hgrow1)
      have HO1 := hideIt hown1
      have HB1 : Hid (Below w.heap.size w w1) := ⟨hgrow1.os, hgrow1.tape, hgrow1.output, hgrow1.size, fun k hk => hgrow1.block k hk (by simp)⟩
      clear hown1 hgrow1
      go_loopw [6, 21] (fun v6 v21 wr => ∃ k : Nat, k ≤ 320 ∧ v21 = .int .i64 (k : Int) ∧ ROwn w.heap.size wr v6 (lvR (ob s ws) k) ∧ Below w.heap.size w wr) (fun _ i _ => 320 - (intOf i).toNat)
      case atStart => exact ⟨0, by omega, rfl, HO1.out, HB1.out⟩
      case round =>
        clear HO1 HB1
        obtain ⟨k, hk, rfl, hrow, hbr⟩ := hrel
        have HRo := hideIt hrow
        have HBw := hideIt hbr
        by_cases hlt : k < 320
        · have hlt' : (k : Int) < 320 := by omega
          have m1 := (HM.out.below hbr).am
          have tc := m1.typ hlt
          have hkw : IntKind.u16.wrap (k : Int) = (k : Int) := by unfold IntKind.wrap; simp [IntKind.bits, IntKind.signed]; omega
          have HRf := hideIt (refOf_walk m1 hlt)
          obtain ⟨e1, e2⟩ := HEI.out k hlt
          have HS := hideIt (lvR_succ (ob s ws) k)
          rw [e1, e2] at HS
          have HLk := hideIt (lvR_le (ob s ws) k)
          have HBz := hideIt (show w.heap.size ≤ wr.heap.size from hbr.size)
          clear m1 e1 e2 hrow hbr
          generalize (s.hd k).typ = ty at *
          generalize (s.hd k).gen = ge at *
          generalize lvR (ob s ws) k = rl at *
          by_cases h0 : ty = 0
          · have HE := hideIt (HS.out.trans (by rw [if_pos h0, List.append_nil]))
            subst h0
            clear HS
            go_wp2_with fail
            go_roundw
            case rel => exact ⟨k + 1, by omega, by go_num, by rw [HE.out]; exact HRo.out, HBw.out⟩
            case measure => simp [intOf]; omega
          · have HE := hideIt (HS.out.trans (by rw [if_neg h0]))
            have kn : (ty != 0) = true := by rw [bne_iff_ne]; exact h0
            clear HS h0
            go_wp2_with (first | (go_at_call 124; refine HRf.out.mono ?_; rintro e w5 ⟨rfl, hb5⟩; have HO5 := hideIt (HRo.out.below hb5); have HB5 := hideIt (Nat.le_trans HBz.out hb5.size)) | (at_builtin; refine wpList_append_own_at _ rfl (.tmp 32) (.tmp 37) 55 rfl w.heap.size 32 i2 (.agg #[.int .u16 0, .int .u32 0]) 2 8 Tryz.underlying55 hi2 hz2 hs2 hb2 rfl (by decide) _ _ _ rfl (World.ownsRow.alloc HO5.out _) ⟨w5.heap.size, 0, none⟩ 1 1 [.int .u16 (k : Int), .int .u32 ge] rfl rfl (new_two w5 _ rfl _ _ _) (ones2 _ _) (by have := HLk.out; unfold maxLen; omega) (by have := HLk.out; omega) (by have := HB5.out; simp; omega) ?_; intro v' w8 hown8 hgrow8 _ hwh8; have HB8 := hideIt ((HBw.out.trans (hb5.mono HBz.out)).trans (Grown.below HB5.out hgrow8 (fun b hb => (owns_lt HO5.out b hb).1))); have HO8 := hideIt hown8; clear hown8 hgrow8 hwh8))
            go_roundw
            case rel => exact ⟨k + 1, by omega, by go_num, by rw [HE.out]; unfold ROwn; rw [refL_one, List.length_append]; exact HO8.out, HB8.out⟩
            case measure => simp [intOf]; omega
        · obtain rfl : k = 320 := by omega
          obtain ⟨a6, c6, hf6⟩ : ∃ a c, u6 = .slice a (lvR (ob s ws) 320).length c := by
            rcases hrow.2 with ⟨e, e2⟩ | ⟨g, c, cur, e1, _⟩
            · exact ⟨none, 0, by rw [e, e2]⟩
            · exact ⟨_, c, e1⟩
          subst hf6
          clear hrow hbr
          go_wp2_with fail
          go_ret
          exact ⟨_, rfl, HRo.out, HBw.out⟩
end
end Go.Proofs.Qxb6500847aGreatDoor.Os
