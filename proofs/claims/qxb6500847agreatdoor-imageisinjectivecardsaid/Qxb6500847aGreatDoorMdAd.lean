/-
  The abstract model: addRegion.
-/
import Derived.Test.Qxb6500847aGreatDoorMdX
import Derived.Test.Qxb6500847aGreatDoorMdM
namespace Go.Proofs.Qxb6500847aGreatDoor.Os
open Go.RowKit FloorA
set_option maxRecDepth 100000
/-- A root that the new region would meet. -/
def Ov (M : Nat → En) (b z : Nat) (i : Nat) : Prop := (M i).typ ≠ 0 ∧ (M i).par = 65535 ∧ (b : Int) < (M i).bas + (M i).siz ∧ (M i).bas < (b : Int) + (z : Int)
section
variable {w w' : World} {B : Nat} {wb : Nat → Nat} {M : Nat → En}
theorem pz_nb (hM : Mk M) {k : Nat} (hk : k < 320) (h : (M k).par ≠ 65535) : (pz (M k).par == -1) = false := by
  rw [beq_eq_false_iff_ne]
  unfold pz
  rw [if_neg h]
  rcases hM.par k hk with q | ⟨p, _, q⟩
  · exact absurd q h
  · omega
set_option maxHeartbeats 8000000 in
theorem addRegion_m (h : Md w B wb M) (hM : Mk M) {b z : Nat} (hb : b < 18446744073709551616) (hz : z < 18446744073709551616) :
    Calls Tryz.prog 70 #[.pointer (some ⟨B, 0, none⟩), .int .u64 (b : Int), .int .u64 (z : Int)] w (MsP B wb M (addX M (b : Int) (z : Int)) w) := by
  have hb0 := alloc_below (w := w) (.cells #[.int .u8 0, .slice none 0 0, .slice none 0 0] 57)
  have hs0 : (w.alloc (.cells #[.int .u8 0, .slice none 0 0, .slice none 0 0] 57)).heap[w.heap.size]? = some (.cells #[.int .u8 0, .slice none 0 0, .slice none 0 0] 57 (0, 0)) := heap_new _ _
  have H0 := hideIt h
  have HM := hideIt (h.below hb0)
  have HB := hideIt hb0
  have HS := hideIt hs0
  have HMk := hideIt hM
  obtain ⟨X, hX⟩ : ∃ X, X = addX M (b : Int) (z : Int) := ⟨_, rfl⟩
  rw [← hX]
  have HX := hideIt hX
  clear h hb0 hX hM hs0
  obtain ⟨W, hW⟩ : ∃ W, W = w.alloc (.cells #[.int .u8 0, .slice none 0 0, .slice none 0 0] 57) := ⟨_, rfl⟩
  by_cases hz0 : z = 0
  · subst hz0
    have HX3 : Hid (X = (Os.bad 10, M)) := by show X = _; rw [HX.out]; unfold addX; rw [if_pos (by omega)]
    clear HX
    go_enter Tryz.func70, Tryz.ntmps70
    go_upto_region 1 with fail
    rw [← hW] at HM HB HS ⊢
    clear hW
    go_wp2_with (go_at_call 90; refine (fail_m _ _).mono ?_; rintro e w9 ⟨rfl, hb9⟩; have hs9 := (hb9.block _ (heap_lt HS.out)).trans HS.out; obtain ⟨q0, q1, q2, k0, k1, k2⟩ := three_cells hs9; have HZ := hideIt (three_set hs9 (.int .u8 10) (.slice none 0 0) (.slice none 0 0)); have HF := hideIt (MsP.badR H0.out (Below.thr HB.out hb9) (Nat.le_refl _) HX3.out (.int .u8 10) (.slice none 0 0) (.slice none 0 0)); clear hb9 hs9)
    refine bodyPost_ret (v := .agg #[.int .u8 10, (.slice none 0 0), (.slice none 0 0)]) ?_ rfl HF.out
    exact results_cell_row (by exact Tryz.results70) _ _ (w.heap.size) _ _ _ _ (by rfl) (by exact HZ.out) Tryz.underlying57 rfl (by kernel_rfl)
  have hzb : ((z : Int) == 0) = false := by rw [beq_eq_false_iff_ne]; omega
  by_cases hbl : (b : Int) ≥ 281474976710656
  · skip
    have HX3 : Hid (X = (Os.bad 10, M)) := by show X = _; rw [HX.out]; unfold addX; rw [if_pos (by omega)]
    clear HX
    go_enter Tryz.func70, Tryz.ntmps70
    go_upto_region 1 with fail
    rw [← hW] at HM HB HS ⊢
    clear hW
    go_wp2_with (go_at_call 90; refine (fail_m _ _).mono ?_; rintro e w9 ⟨rfl, hb9⟩; have hs9 := (hb9.block _ (heap_lt HS.out)).trans HS.out; obtain ⟨q0, q1, q2, k0, k1, k2⟩ := three_cells hs9; have HZ := hideIt (three_set hs9 (.int .u8 10) (.slice none 0 0) (.slice none 0 0)); have HF := hideIt (MsP.badR H0.out (Below.thr HB.out hb9) (Nat.le_refl _) HX3.out (.int .u8 10) (.slice none 0 0) (.slice none 0 0)); clear hb9 hs9)
    refine bodyPost_ret (v := .agg #[.int .u8 10, (.slice none 0 0), (.slice none 0 0)]) ?_ rfl HF.out
    exact results_cell_row (by exact Tryz.results70) _ _ (w.heap.size) _ _ _ _ (by rfl) (by exact HZ.out) Tryz.underlying57 rfl (by kernel_rfl)
  obtain ⟨sm, hsm, hcs⟩ : ∃ sm : Nat, IntKind.u64.wrap ((b : Int) + (z : Int)) = (sm : Int) ∧ ((sm = b + z ∧ b + z < 18446744073709551616) ∨ (18446744073709551616 ≤ b + z ∧ sm + 18446744073709551616 = b + z)) := by
    by_cases q : b + z < 18446744073709551616
    · exact ⟨b + z, by rw [u64_same (by omega) (by omega)]; omega, Or.inl ⟨rfl, q⟩⟩
    · refine ⟨b + z - 18446744073709551616, ?_, Or.inr ⟨by omega, by omega⟩⟩
      unfold IntKind.wrap
      simp [IntKind.bits, IntKind.signed]
      omega
  by_cases hgt : (sm : Int) > 281474976710656
  · have hbz : (281474976710656 : Int) - (b : Int) < (z : Int) := by omega
    clear hcs
    have HX3 : Hid (X = (Os.bad 10, M)) := by show X = _; rw [HX.out]; unfold addX; rw [if_pos (by omega)]
    clear HX
    go_enter Tryz.func70, Tryz.ntmps70
    go_upto_region 1 with fail
    rw [← hW] at HM HB HS ⊢
    clear hW
    go_wp2_with (go_at_call 90; refine (fail_m _ _).mono ?_; rintro e w9 ⟨rfl, hb9⟩; have hs9 := (hb9.block _ (heap_lt HS.out)).trans HS.out; obtain ⟨q0, q1, q2, k0, k1, k2⟩ := three_cells hs9; have HZ := hideIt (three_set hs9 (.int .u8 10) (.slice none 0 0) (.slice none 0 0)); have HF := hideIt (MsP.badR H0.out (Below.thr HB.out hb9) (Nat.le_refl _) HX3.out (.int .u8 10) (.slice none 0 0) (.slice none 0 0)); clear hb9 hs9)
    refine bodyPost_ret (v := .agg #[.int .u8 10, (.slice none 0 0), (.slice none 0 0)]) ?_ rfl HF.out
    exact results_cell_row (by exact Tryz.results70) _ _ (w.heap.size) _ _ _ _ (by rfl) (by exact HZ.out) Tryz.underlying57 rfl (by kernel_rfl)
  by_cases hlt9 : (sm : Int) < (b : Int)
  · have hbz : (281474976710656 : Int) - (b : Int) < (z : Int) := by omega
    clear hcs
    have HX3 : Hid (X = (Os.bad 10, M)) := by show X = _; rw [HX.out]; unfold addX; rw [if_pos (by omega)]
    clear HX
    go_enter Tryz.func70, Tryz.ntmps70
    go_upto_region 1 with fail
    rw [← hW] at HM HB HS ⊢
    clear hW
    go_wp2_with (go_at_call 90; refine (fail_m _ _).mono ?_; rintro e w9 ⟨rfl, hb9⟩; have hs9 := (hb9.block _ (heap_lt HS.out)).trans HS.out; obtain ⟨q0, q1, q2, k0, k1, k2⟩ := three_cells hs9; have HZ := hideIt (three_set hs9 (.int .u8 10) (.slice none 0 0) (.slice none 0 0)); have HF := hideIt (MsP.badR H0.out (Below.thr HB.out hb9) (Nat.le_refl _) HX3.out (.int .u8 10) (.slice none 0 0) (.slice none 0 0)); clear hb9 hs9)
    refine bodyPost_ret (v := .agg #[.int .u8 10, (.slice none 0 0), (.slice none 0 0)]) ?_ rfl HF.out
    exact results_cell_row (by exact Tryz.results70) _ _ (w.heap.size) _ _ _ _ (by rfl) (by exact HZ.out) Tryz.underlying57 rfl (by kernel_rfl)
  have hsz : sm = b + z := by omega
  have HRg : Hid (¬ ((z : Int) = 0 ∨ 281474976710656 ≤ (b : Int) ∨ 281474976710656 - (b : Int) < (z : Int))) := by show ¬ _; omega
  have HSZ : Hid ((sm : Int) = (b : Int) + (z : Int)) := by show _ = _; omega
  clear hcs hsz hb hz hz0
  go_enter Tryz.func70, Tryz.ntmps70
  go_upto_region 1 with fail
  rw [← hW] at HM HB HS ⊢
  clear hW
  go_wp2_with fail
  go_loopw [30] (fun v30 wr => ∃ k : Nat, k ≤ 320 ∧ v30 = .int .i64 (k : Int) ∧ (∀ x, x < k → ¬ Ov M b z x) ∧ Below W.heap.size W wr) (fun j _ => 320 - (intOf j).toNat)
  case atStart => exact ⟨0, by omega, rfl, fun x hx => by omega, Below.refl _ _⟩
  case round =>
    obtain ⟨k, hk, rfl, hall, hbr⟩ := hrel
    have HAll := hideIt hall
    have HBr := hideIt hbr
    clear hall hzb hbl hgt hlt9
    by_cases hlt : k < 320
    · have hlt' : (k : Int) < 320 := by omega
      have HL := hideIt (live_m (HM.out.below hbr) hlt)
      by_cases ht : (M k).typ = 0
      · have hd : decide ((M k).typ ≠ 0) = false := by simp [ht]
        rw [hd] at HL
        have HA2 : Hid (∀ x, x < k + 1 → ¬ Ov M b z x) := fun x hx q => by
          by_cases e : x = k
          · subst e; exact q.1 ht
          · exact HAll.out x (by omega) q
        clear hd ht hbr
        go_wp2_with (go_at_call 203; refine HL.out.mono ?_; rintro e w' ⟨rfl, hw'⟩; obtain rfl := hw'.symm)
        go_roundw
        case rel => exact ⟨k + 1, by omega, by go_num, HA2.out, HBr.out⟩
        case measure => simp [intOf]; omega
      · have hd : decide ((M k).typ ≠ 0) = true := by simp [ht]
        rw [hd] at HL
        have zp := (HM.out.below hbr).par hlt
        by_cases hp : (M k).par = 65535
        · have hpz : pz (M k).par = -1 := by rw [hp]; rfl
          rw [hpz] at zp
          have HE := hideIt (end_m (HM.out.below hbr) HMk.out hlt)
          have HZb := hideIt (fun w' (hb : Below W.heap.size W w') => (HM.out.below hb).bas hlt)
          by_cases he : (b : Int) < (M k).bas + (M k).siz
          · by_cases hs : (M k).bas < (sm : Int)
            · have HX3 : Hid (X = (Os.bad 11, M)) := by
                show X = _
                rw [HX.out]
                unfold addX
                rw [if_neg HRg.out, if_pos ⟨k, hlt, ht, hp, he, by rw [← HSZ.out]; exact hs⟩]
              have HS5 := hideIt ((hbr.block _ (heap_lt HS.out)).trans HS.out)
              have HKS := hideIt (fun w' (hb : Below W.heap.size W w') => (hb.block _ (heap_lt HS.out)).trans HS.out)
              clear hd ht hbr hp hpz HX
              generalize (M k).bas + (M k).siz = en at *
              generalize (M k).bas = ba at *
              go_wp2_with (first | (go_at_call 203; refine HL.out.mono ?_; rintro e w' ⟨rfl, hw'⟩; obtain rfl := hw'.symm) | (go_at_call 204; refine HE.out.mono ?_; rintro e w4 ⟨rfl, m4, hw4⟩; have HB4 := hideIt (show Below W.heap.size W w4 from by rw [hw4]; exact Below.thr HBr.out (belowN _ _)); have zb4 := HZb.out _ HB4.out; clear hw4; have HS4 := hideIt (HKS.out _ HB4.out); have HBB := hideIt (Below.thr HB.out HB4.out)) | (go_at_call 90; refine (fail_m _ _).mono ?_; rintro e w9 ⟨rfl, hb9⟩; have hs9 := (hb9.block _ (heap_lt HS4.out)).trans HS4.out; obtain ⟨q0, q1, q2, k0, k1, k2⟩ := three_cells hs9; have HZ := hideIt (three_set hs9 (.int .u8 11) (.slice none 0 0) (.slice none 0 0)); have HF := hideIt (MsP.badR H0.out (Below.thr HBB.out hb9) (Nat.le_refl _) HX3.out (.int .u8 11) (.slice none 0 0) (.slice none 0 0)); clear hb9 hs9))
              refine bodyPost_ret (v := .agg #[.int .u8 11, (.slice none 0 0), (.slice none 0 0)]) ?_ rfl HF.out
              exact results_cell_row (by exact Tryz.results70) _ _ (w.heap.size) _ _ _ _ (by rfl) (by exact HZ.out) Tryz.underlying57 rfl (by kernel_rfl)
            · skip
              have HA2 : Hid (∀ x, x < k + 1 → ¬ Ov M b z x) := fun x hx q => by
                by_cases e : x = k
                · subst e; exact hs (by rw [HSZ.out]; exact q.2.2.2)
                · exact HAll.out x (by omega) q
              clear hd ht hbr hp hpz
              generalize (M k).bas + (M k).siz = en at *
              generalize (M k).bas = ba at *
              go_wp2_with (first | (go_at_call 203; refine HL.out.mono ?_; rintro e w' ⟨rfl, hw'⟩; obtain rfl := hw'.symm) | (go_at_call 204; refine HE.out.mono ?_; rintro e w4 ⟨rfl, m4, hw4⟩; have HB4 := hideIt (show Below W.heap.size W w4 from by rw [hw4]; exact Below.thr HBr.out (belowN _ _)); have zb4 := HZb.out _ HB4.out; clear hw4))
              go_roundw
              case rel => exact ⟨k + 1, by omega, by go_num, HA2.out, HB4.out⟩
              case measure => simp [intOf]; omega
          · skip
            have HA2 : Hid (∀ x, x < k + 1 → ¬ Ov M b z x) := fun x hx q => by
              by_cases e : x = k
              · subst e; exact he q.2.2.1
              · exact HAll.out x (by omega) q
            clear hd ht hbr hp hpz
            generalize (M k).bas + (M k).siz = en at *
            go_wp2_with (first | (go_at_call 203; refine HL.out.mono ?_; rintro e w' ⟨rfl, hw'⟩; obtain rfl := hw'.symm) | (go_at_call 204; refine HE.out.mono ?_; rintro e w4 ⟨rfl, m4, hw4⟩; have HB4 := hideIt (show Below W.heap.size W w4 from by rw [hw4]; exact Below.thr HBr.out (belowN _ _)); have zb4 := HZb.out _ HB4.out; clear hw4))
            go_roundw
            case rel => exact ⟨k + 1, by omega, by go_num, HA2.out, HB4.out⟩
            case measure => simp [intOf]; omega
        · have hpb := pz_nb HMk.out hlt hp
          have HA2 : Hid (∀ x, x < k + 1 → ¬ Ov M b z x) := fun x hx q => by
            by_cases e : x = k
            · subst e; exact hp q.2.1
            · exact HAll.out x (by omega) q
          clear hd ht hbr hp
          generalize pz (M k).par = pk at *
          go_wp2_with (go_at_call 203; refine HL.out.mono ?_; rintro e w' ⟨rfl, hw'⟩; obtain rfl := hw'.symm)
          go_roundw
          case rel => exact ⟨k + 1, by omega, by go_num, HA2.out, HBr.out⟩
          case measure => simp [intOf]; omega
    · have hk3 : k = 320 := by omega
      subst hk3
      have HNo : Hid (¬ ∃ i, i < 320 ∧ (M i).typ ≠ 0 ∧ (M i).par = 65535 ∧ (b : Int) < (M i).bas + (M i).siz ∧ (M i).bas < (b : Int) + (z : Int)) := fun ⟨i, i1, i2⟩ => HAll.out i i1 i2
      have HSp := hideIt (spare_m (HM.out.below hbr) HMk.out 1)
      have HM2 := hideIt (HM.out.below hbr)
      have HB2 := hideIt (Below.thr HB.out hbr)
      have HS2 := hideIt ((hbr.block _ (heap_lt HS.out)).trans HS.out)
      clear hbr HAll HBr HM HB HS
      go_wp2_with fail
      go_at_call 205
      refine HSp.out.mono ?_
      rintro e w3 ⟨v, rfl, hown, hb3⟩
      obtain ⟨ad, cp, rfl⟩ := hown.form
      have HO := hideIt hown
      have HM3 := hideIt (HM2.out.below hb3)
      have HB3 := hideIt (Below.thr HB2.out hb3)
      have HS3 := hideIt ((hb3.block _ (heap_lt HS2.out)).trans HS2.out)
      have HLn := hideIt (spr_le M 256 320)
      have hX2 : X = match (spr M 256 320).head? with
        | none => (bad 8, M)
        | some c => (⟨0, [(c, (M c).gen)], []⟩, updM M c ⟨(M c).gen, 1, (b : Int), (z : Int), 65535, []⟩) := by
        rw [HX.out]
        unfold addX
        rw [if_neg HRg.out, if_neg HNo.out]
        rfl
      have HMem : Hid (∀ c ∈ spr M 256 320, c < 320) := fun c hc => by
        unfold spr at hc
        exact List.mem_range.1 (List.mem_filter.1 hc).1
      have hsh : spr M (loT 1) (hiT 1) = spr M 256 320 := rfl
      rw [hsh] at HO ⊢
      clear hown hb3 HSp HX HNo HM2 HB2 HS2 hsh
      generalize spr M 256 320 = l at *
      match l, hX2, HO, HMem, HLn with
      | [], hX2, HO, HMem, HLn =>
        have HX3 : Hid (X = (Os.bad 8, M)) := hX2
        clear hX2 HO HMem HLn
        go_wp2_with (go_at_call 90; refine (fail_m _ _).mono ?_; rintro e w9 ⟨rfl, hb9⟩; have hs9 := (hb9.block _ (heap_lt HS3.out)).trans HS3.out; obtain ⟨q0, q1, q2, k0, k1, k2⟩ := three_cells hs9; have HZ := hideIt (three_set hs9 (.int .u8 8) (.slice none 0 0) (.slice none 0 0)); have HF := hideIt (MsP.badR H0.out (Below.thr HB3.out hb9) (Nat.le_refl _) HX3.out (.int .u8 8) (.slice none 0 0) (.slice none 0 0)); clear hb9 hs9)
        refine bodyPost_ret (v := .agg #[.int .u8 8, (.slice none 0 0), (.slice none 0 0)]) ?_ rfl HF.out
        exact results_cell_row (by exact Tryz.results70) _ _ (w.heap.size) _ _ _ _ (by rfl) (by exact HZ.out) Tryz.underlying57 rfl (by kernel_rfl)
      | c :: r, hX2, HO, HMem, HLn =>
        have c3 : c < 320 := HMem.out c (List.mem_cons_self ..)
        have c3' : (c : Int) < 320 := by omega
        have HX3 : Hid (X = (⟨0, [(c, (M c).gen)], []⟩, updM M c ⟨(M c).gen, 1, (b : Int), (z : Int), 65535, []⟩)) := hX2
        obtain ⟨gg, cg, eg, g1, g2, _, hcl⟩ := HO.out.at (by simp)
        obtain ⟨rfl, rfl⟩ : ad = some ⟨gg, 0, none⟩ ∧ cp = cg := by
          injection eg with e1 e2 e3
          exact ⟨e1, e3⟩
        have cu := hcl 0 c rfl
        have hl1 : (0 : Int) < ((c :: r).length : Int) := by rw [List.length_cons]; omega
        have hln := HLn.out
        generalize hll : (c :: r).length = ll at *
        have hlb : ((ll : Int) == 0) = false := by rw [beq_eq_false_iff_ne]; omega
        have z0 := HM3.out.gen c3
        have z1 := HM3.out.typ c3
        have z2 := HM3.out.bas c3
        have z3 := HM3.out.siz c3
        have z4 := HM3.out.par c3
        obtain ⟨v5, z5, _⟩ := HM3.out.wrd c c3
        have f0 := HM3.out.fz (c * 6)
        have f1 := HM3.out.fz (c * 6 + 1)
        have f2 := HM3.out.fz (c * 6 + 2)
        have f3 := HM3.out.fz (c * 6 + 3)
        have f4 := HM3.out.fz (c * 6 + 4)
        have f5 := HM3.out.fz (c * 6 + 5)
        have HP := hideIt (HM3.out.put (wb' := wb) c3 ⟨(M c).gen, 1, (b : Int), (z : Int), 65535, []⟩ (.slice none 0 0) (fun _ _ => rfl) (Or.inl ⟨rfl, _, _, rfl⟩) (fun q => absurd rfl q) (fun q => absurd rfl q))
        have HEx := hideIt (Ext.cells (Ext.refl w3.heap.size (fun q => q = B) w3) rfl (ent6 ⟨(M c).gen, 1, (b : Int), (z : Int), 65535, []⟩ (.slice none 0 0)) (c * 6))
        have HUg : Hid ((updM M c ⟨(M c).gen, 1, (b : Int), (z : Int), 65535, []⟩ c).gen = (M c).gen) := by show _ = _; unfold updM; rw [if_pos rfl]
        obtain ⟨M2, hM2⟩ : ∃ M2, M2 = updM M c ⟨(M c).gen, 1, (b : Int), (z : Int), 65535, []⟩ := ⟨_, rfl⟩
        have HT2 : Hid (∀ q, Tm B wb M2 q → Tm B wb M q) := fun q hq => by rw [hM2] at hq; exact updM_tm rfl hq
        rw [← hM2] at HX3 HP HUg
        clear hX2 hcl eg hll HO hM2
        generalize (M c).gen = gn at *
        go_wp2_with fail
        go_region
        all_goals
          have hws : ((((((w3.setCell ⟨B, c * 6, none⟩ (.int .u32 gn)).setCell ⟨B, c * 6 + 1, none⟩ (.int .u8 1)).setCell ⟨B, c * 6 + 2, none⟩ (.int .u64 (b : Int))).setCell ⟨B, c * 6 + 3, none⟩ (.int .u64 (z : Int))).setCell ⟨B, c * 6 + 4, none⟩ (.int .i64 (-1))).setCell ⟨B, c * 6 + 5, none⟩ (.slice none 0 0)).drew = (w3.setCells B (c * 6) (ent6 ⟨gn, 1, (b : Int), (z : Int), 65535, []⟩ (.slice none 0 0))).drew := rfl
          rw [hws]
          have HM5 : Hid (Md (w3.setCells B (c * 6) (ent6 ⟨gn, 1, (b : Int), (z : Int), 65535, []⟩ (.slice none 0 0))).drew B wb M2) := HP.out.below (below_d _)
          have HE5 : Hid (Ext w.heap.size (Tm B wb M) w (w3.setCells B (c * 6) (ent6 ⟨gn, 1, (b : Int), (z : Int), 65535, []⟩ (.slice none 0 0))).drew) := ((Ext.of_below HB3.out _).trans HEx.out HB3.out.size (fun q _ e => Or.inl e)).drew
          have HS5 : Hid ((w3.setCells B (c * 6) (ent6 ⟨gn, 1, (b : Int), (z : Int), 65535, []⟩ (.slice none 0 0))).drew.heap[w.heap.size]? = some (.cells #[.int .u8 0, .slice none 0 0, .slice none 0 0] 57 (0, 0))) := (HEx.out.block w.heap.size (heap_lt HS3.out) (by have := H0.out.lt; show ¬ w.heap.size = B; omega)).trans HS3.out
          clear hws HP HEx HM3 HB3 HS3 z0 z1 z2 z3 z4 z5 f0 f1 f2 f3 f4 f5 cu
          generalize (w3.setCells B (c * 6) (ent6 ⟨gn, 1, (b : Int), (z : Int), 65535, []⟩ (.slice none 0 0))).drew = w5 at *
          have HRf := hideIt (ref_m HM5.out c3)
          rw [HUg.out] at HRf
          go_wp2_with (go_at_call 206; refine HRf.out.mono ?_; rintro e w6 ⟨rfl, hb6⟩; have hs6 := (hb6.block _ (heap_lt HS5.out)).trans HS5.out; have hs7 := (heap_alloc_old w6 (.cells #[.int .u16 (c : Int), .int .u32 gn] 32) (heap_lt hs6)).trans hs6; obtain ⟨q0, q1, q2, k0, k1, k2⟩ := three_cells hs7; have HZ := hideIt (three_set hs7 (.int .u8 0) (.slice (some ⟨w6.heap.size, 0, none⟩) 1 1) (.slice none 0 0)); have HF := hideIt (MsP.chg (X := ⟨0, [(c, gn)], []⟩) (R := w.heap.size) ((HM5.out.below hb6).below (alloc_below (w := w6) (.cells #[.int .u16 (c : Int), .int .u32 gn] 32))) ((HE5.out.andThen hb6 HE5.out.size).andThen (alloc_below _) (Nat.le_trans HE5.out.size hb6.size)) (Nat.le_refl w.heap.size) (fun q hq => ⟨by have := H0.out.tlt (HT2.out q hq); omega, Or.inl (HT2.out q hq)⟩) rfl (isR_new (n := 1) (heap_new _ _) (by have := heap_lt hs6; omega)) (IsU.nil _ _) (.int .u8 0) (.slice (some ⟨w6.heap.size, 0, none⟩) 1 1) (.slice none 0 0)); clear hb6 hs6 hs7)
          rw [← HX3.out] at HF
          refine bodyPost_ret (v := .agg #[.int .u8 0, (.slice (some ⟨w6.heap.size, 0, none⟩) 1 1), (.slice none 0 0)]) ?_ rfl HF.out
          exact results_cell_row (by exact Tryz.results70) _ _ (w.heap.size) _ _ _ _ (by rfl) (by exact HZ.out) Tryz.underlying57 rfl (by kernel_rfl)
end
end Go.Proofs.Qxb6500847aGreatDoor.Os
