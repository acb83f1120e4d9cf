/-
  The abstract model: setEpoch.
-/
import Derived.Test.Qxb6500847aGreatDoorMdM
namespace Go.Proofs.Qxb6500847aGreatDoor.Os
open Go.RowKit FloorA
set_option maxRecDepth 100000
/-- The first k entries have their new generation. -/
def epM (M : Nat → En) (g : Int) (k i : Nat) : En := if i < k ∧ (M i).gen ≠ 4294967295 then { M i with gen := g } else M i
theorem epM_wds (M : Nat → En) (g : Int) (k i : Nat) : (epM M g k i).wds = (M i).wds := by unfold epM; split <;> rfl
theorem epM_zero (M : Nat → En) (g : Int) : epM M g 0 = M := by
  funext i
  unfold epM
  rw [if_neg (by omega)]
theorem epM_at (M : Nat → En) (g : Int) (k : Nat) : epM M g k k = M k := by unfold epM; rw [if_neg (by omega)]
theorem epM_same {M : Nat → En} {g : Int} {k : Nat} (h : (M k).gen = 4294967295) : epM M g (k + 1) = epM M g k := by
  funext i
  unfold epM
  by_cases q : i = k
  · subst q; rw [if_neg (fun z => z.2 h), if_neg (fun z => z.2 h)]
  · by_cases q2 : i < k ∧ (M i).gen ≠ 4294967295
    · rw [if_pos q2, if_pos ⟨by omega, q2.2⟩]
    · rw [if_neg q2, if_neg (fun z => q2 ⟨by omega, z.2⟩)]
theorem epM_succ {M : Nat → En} {g : Int} {k : Nat} (h : (M k).gen ≠ 4294967295) : epM M g (k + 1) = updM (epM M g k) k { M k with gen := g } := by
  funext i
  by_cases q : i = k
  · subst q
    unfold updM
    rw [if_pos rfl]
    unfold epM
    rw [if_pos ⟨by omega, h⟩]
  · unfold updM
    rw [if_neg q]
    show epM M g (k + 1) i = epM M g k i
    unfold epM
    by_cases q2 : i < k ∧ (M i).gen ≠ 4294967295
    · rw [if_pos q2, if_pos ⟨by omega, q2.2⟩]
    · rw [if_neg q2, if_neg (fun z => q2 ⟨by omega, z.2⟩)]
theorem epM_tm {M : Nat → En} {g : Int} {k B : Nat} {wb : Nat → Nat} {b : Nat} (h : Tm B wb (epM M g k) b) : Tm B wb M b := by
  rcases h with h | ⟨j, hj, hw, e⟩
  · exact Or.inl h
  · exact Or.inr ⟨j, hj, by rw [← epM_wds M g k j]; exact hw, e⟩
section
variable {w w' : World} {B : Nat} {wb : Nat → Nat} {M : Nat → En} {i : Nat}
/-- One generation is written. -/
theorem Md.setGen (h : Md w B wb M) (hi : i < 320) (g : Int) : Md (w.setCell ⟨B, i * 6, none⟩ (.int .u32 g)) B wb (updM M i { M i with gen := g }) := by
  have same : (w.setCell ⟨B, i * 6, none⟩ (.int .u32 g)).cell? ⟨B, i * 6, none⟩ = some (.int .u32 g) := set_same (h.gen hi)
  have oth : ∀ {b o : Nat}, ¬ (b = B ∧ o = i * 6) → (w.setCell ⟨B, i * 6, none⟩ (.int .u32 g)).cell? ⟨b, o, none⟩ = w.cell? ⟨b, o, none⟩ := fun {b o} hn => set_other (fun e => hn (by injection e with e1 e2; exact ⟨e1.symm, e2.symm⟩))
  have wd : ∀ j, (updM M i { M i with gen := g } j).wds = (M j).wds := fun j => by
    unfold updM
    by_cases q : j = i
    · rw [if_pos q, q]
    · rw [if_neg q]
  refine ⟨fun j hj => ?_, fun j hj => ?_, fun o => (World.frozen?_setCell ..).trans (h.fz o), fun j hj hw => h.ne j hj (by rw [← wd]; exact hw), fun a b ha hb h1 h2 => h.inj a b ha hb (by rw [← wd]; exact h1) (by rw [← wd]; exact h2)⟩
  · intro k x hx
    by_cases q : j = i
    · subst q
      have e : updM M j { M j with gen := g } j = { M j with gen := g } := by unfold updM; rw [if_pos rfl]
      rw [e] at hx
      match k, hx with
      | 0, hx =>
        have : x = .int .u32 g := by simpa [entL] using hx.symm
        rw [this]
        exact same
      | k + 1, hx => exact (oth (by omega)).trans (h.cel j hj (k + 1) x hx)
    · have e : updM M i { M i with gen := g } j = M j := by unfold updM; rw [if_neg q]
      rw [e] at hx
      have hk : k < 5 := (List.getElem?_eq_some_iff.1 hx).1
      exact (oth (by omega)).trans (h.cel j hj k x hx)
  · rw [wd]
    obtain ⟨v, e1, e2⟩ := h.wrd j hj
    refine ⟨v, (oth (by omega)).trans e1, ?_⟩
    rcases e2 with e2 | ⟨a, c, b1, b2, b3, b4, b5⟩
    · exact Or.inl e2
    · exact Or.inr ⟨a, c, b1, b2, b3, fun k x hx => (oth (fun z => h.ne j hj a z.1)).trans (b4 k x hx), fun o => (World.frozen?_setCell ..).trans (b5 o)⟩
set_option maxHeartbeats 8000000 in
theorem setEpoch_m (h : Md w B wb M) (hM : Mk M) (g : Nat) :
    Calls Tryz.prog 75 #[.pointer (some ⟨B, 0, none⟩), .int .u32 (g : Int)] w (MsP B wb M (cX (epoX M (g : Int))) w) := by
  have hb0 := alloc_below (w := w) (.cells #[.int .u8 0, .slice none 0 0, .slice none 0 0] 57)
  have hs0 : (w.alloc (.cells #[.int .u8 0, .slice none 0 0, .slice none 0 0] 57)).heap[w.heap.size]? = some (.cells #[.int .u8 0, .slice none 0 0, .slice none 0 0] 57 (0, 0)) := heap_new _ _
  have H0 := hideIt h
  have HM := hideIt (h.below hb0)
  have HB := hideIt hb0
  have HS := hideIt hs0
  have HMk := hideIt hM
  obtain ⟨X, hX⟩ : ∃ X, X = cX (epoX M (g : Int)) := ⟨_, rfl⟩
  rw [← hX]
  have HX := hideIt hX
  have hBl := h.lt
  clear h hb0 hX hM hs0
  obtain ⟨W, hW⟩ : ∃ W, W = w.alloc (.cells #[.int .u8 0, .slice none 0 0, .slice none 0 0] 57) := ⟨_, rfl⟩
  by_cases hr : (g : Int) < 1 ∨ 4294967295 ≤ (g : Int)
  · have HX3 : Hid (X = (Os.bad 15, M)) := by show X = _; rw [HX.out, epoX_rng hr]; rfl
    clear HX
    by_cases h1 : (g : Int) < 1
    · go_enter Tryz.func75, Tryz.ntmps75
      go_upto_region 1 with fail
      rw [← hW] at HM HB HS ⊢
      clear hW hr
      go_wp2_with (go_at_call 90; refine (fail_m _ _).mono ?_; rintro e w3 ⟨rfl, hb3⟩; have hs3 := (hb3.block _ (heap_lt HS.out)).trans HS.out; obtain ⟨q0, q1, q2, k0, k1, k2⟩ := three_cells hs3; have HZ := hideIt (three_set hs3 (.int .u8 15) (.slice none 0 0) (.slice none 0 0)); have HF := hideIt (MsP.badR H0.out (Below.thr HB.out hb3) (Nat.le_refl _) HX3.out (.int .u8 15) (.slice none 0 0) (.slice none 0 0)); clear hb3 hs3)
      refine bodyPost_ret (v := .agg #[.int .u8 15, .slice none 0 0, .slice none 0 0]) ?_ rfl HF.out
      exact results_cell_row (by exact Tryz.results75) _ _ w.heap.size _ _ _ _ (by rfl) (by exact HZ.out) Tryz.underlying57 rfl (by kernel_rfl)
    · have h2 : (g : Int) ≥ 4294967295 := hr.resolve_left h1
      go_enter Tryz.func75, Tryz.ntmps75
      go_upto_region 1 with fail
      rw [← hW] at HM HB HS ⊢
      clear hW hr
      go_wp2_with (go_at_call 90; refine (fail_m _ _).mono ?_; rintro e w3 ⟨rfl, hb3⟩; have hs3 := (hb3.block _ (heap_lt HS.out)).trans HS.out; obtain ⟨q0, q1, q2, k0, k1, k2⟩ := three_cells hs3; have HZ := hideIt (three_set hs3 (.int .u8 15) (.slice none 0 0) (.slice none 0 0)); have HF := hideIt (MsP.badR H0.out (Below.thr HB.out hb3) (Nat.le_refl _) HX3.out (.int .u8 15) (.slice none 0 0) (.slice none 0 0)); clear hb3 hs3)
      refine bodyPost_ret (v := .agg #[.int .u8 15, .slice none 0 0, .slice none 0 0]) ?_ rfl HF.out
      exact results_cell_row (by exact Tryz.results75) _ _ w.heap.size _ _ _ _ (by rfl) (by exact HZ.out) Tryz.underlying57 rfl (by kernel_rfl)
  · have h1 : ¬ (g : Int) < 1 := fun z => hr (Or.inl z)
    have h2 : ¬ (g : Int) ≥ 4294967295 := fun z => hr (Or.inr z)
    have HRg := hideIt hr
    clear hr
    go_enter Tryz.func75, Tryz.ntmps75
    go_upto_region 1 with fail
    rw [← hW] at HM HB HS ⊢
    clear hW
    go_wp2_with fail
    go_loopw [15] (fun v15 wr => ∃ k : Nat, k ≤ 320 ∧ v15 = .int .i64 (k : Int) ∧ (∀ i, i < k → (M i).typ = 0) ∧ wr = W) (fun j _ => 320 - (intOf j).toNat)
    case atStart => exact ⟨0, by omega, rfl, fun i hi => by omega, rfl⟩
    case round =>
      obtain ⟨k, hk, rfl, hall, rfl⟩ := hrel
      have HAll := hideIt hall
      clear hall
      by_cases hlt : k < 320
      · have hlt' : (k : Int) < 320 := by omega
        have HL := hideIt (live_m HM.out hlt)
        by_cases ht : (M k).typ = 0
        · have hd : decide ((M k).typ ≠ 0) = false := by simp [ht]
          rw [hd] at HL
          have HA2 : Hid (∀ i, i < k + 1 → (M i).typ = 0) := fun i hi => by
            by_cases q : i = k
            · rw [q]; exact ht
            · exact HAll.out i (by omega)
          clear hd ht
          go_wp2_with (go_at_call 203; refine HL.out.mono ?_; rintro e w' ⟨rfl, hw'⟩; obtain rfl := hw'.symm)
          go_roundw
          case rel => exact ⟨k + 1, by omega, by go_num, HA2.out, trivial⟩
          case measure => simp [intOf]; omega
        · have hd : decide ((M k).typ ≠ 0) = true := by simp [ht]
          rw [hd] at HL
          have HX3 : Hid (X = (Os.bad 12, M)) := by show X = _; rw [HX.out, epoX_busy HRg.out ⟨k, hlt, ht⟩]; rfl
          clear hd ht HX
          go_wp2_with (first | (go_at_call 203; refine HL.out.mono ?_; rintro e w' ⟨rfl, hw'⟩; obtain rfl := hw'.symm) | (go_at_call 90; refine (fail_m _ _).mono ?_; rintro e w3 ⟨rfl, hb3⟩; have hs3 := (hb3.block _ (heap_lt HS.out)).trans HS.out; obtain ⟨q0, q1, q2, k0, k1, k2⟩ := three_cells hs3; have HZ := hideIt (three_set hs3 (.int .u8 12) (.slice none 0 0) (.slice none 0 0)); have HF := hideIt (MsP.badR H0.out (Below.thr HB.out hb3) (Nat.le_refl _) HX3.out (.int .u8 12) (.slice none 0 0) (.slice none 0 0)); clear hb3 hs3))
          refine bodyPost_ret (v := .agg #[.int .u8 12, .slice none 0 0, .slice none 0 0]) ?_ rfl HF.out
          exact results_cell_row (by exact Tryz.results75) _ _ w.heap.size _ _ _ _ (by rfl) (by exact HZ.out) Tryz.underlying57 rfl (by kernel_rfl)
      · have hk3 : (k : Int) = 320 := by omega
        have HAl : Hid (¬ ∃ i, i < 320 ∧ (M i).typ ≠ 0) := fun ⟨i, hi, ht⟩ => ht (HAll.out i (by omega))
        rw [hk3]
        clear hk hlt hk3 HAll
        go_wp2_with fail
        go_loopw [23] (fun v23 wr2 => ∃ k : Nat, k ≤ 320 ∧ v23 = .int .i64 (k : Int) ∧ (∀ i, i < k → ¬ ((g : Int) < (M i).gen ∧ (M i).gen ≠ 4294967295)) ∧ wr2 = wr) (fun j _ => 320 - (intOf j).toNat)
        case atStart => exact ⟨0, by omega, rfl, fun i hi => by omega, rfl⟩
        case round =>
          obtain ⟨k, hk, rfl, hall, hwr⟩ := hrel
          obtain rfl := hwr.symm
          have HAll := hideIt hall
          clear hall hwr
          by_cases hlt : k < 320
          · have hlt' : (k : Int) < 320 := by omega
            have z0 := HM.out.gen hlt
            by_cases hgt : (g : Int) < (M k).gen
            · have hgt' : (M k).gen > (g : Int) := hgt
              by_cases hmx : (M k).gen = 4294967295
              · have HA2 : Hid (∀ i, i < k + 1 → ¬ ((g : Int) < (M i).gen ∧ (M i).gen ≠ 4294967295)) := fun i hi => by
                  by_cases q : i = k
                  · rw [q]; exact fun z => z.2 hmx
                  · exact HAll.out i (by omega)
                rw [hmx] at z0 hgt'
                clear hgt hmx
                go_wp2_with fail
                go_roundw
                case rel => exact ⟨k + 1, by omega, by go_num, HA2.out, trivial⟩
                case measure => simp [intOf]; omega
              · have HX3 : Hid (X = (Os.bad 15, M)) := by show X = _; rw [HX.out, epoX_gen HRg.out HAl.out ⟨k, hlt, hgt, hmx⟩]; rfl
                have hmb : ((M k).gen != 4294967295) = true := by rw [bne_iff_ne]; exact hmx
                clear hgt hmx HX
                generalize (M k).gen = gk at *
                go_wp2_with (go_at_call 90; refine (fail_m _ _).mono ?_; rintro e w3 ⟨rfl, hb3⟩; have hs3 := (hb3.block _ (heap_lt HS.out)).trans HS.out; obtain ⟨q0, q1, q2, k0, k1, k2⟩ := three_cells hs3; have HZ := hideIt (three_set hs3 (.int .u8 15) (.slice none 0 0) (.slice none 0 0)); have HF := hideIt (MsP.badR H0.out (Below.thr HB.out hb3) (Nat.le_refl _) HX3.out (.int .u8 15) (.slice none 0 0) (.slice none 0 0)); clear hb3 hs3)
                refine bodyPost_ret (v := .agg #[.int .u8 15, .slice none 0 0, .slice none 0 0]) ?_ rfl HF.out
                exact results_cell_row (by exact Tryz.results75) _ _ w.heap.size _ _ _ _ (by rfl) (by exact HZ.out) Tryz.underlying57 rfl (by kernel_rfl)
            · have hgt' : ¬ (M k).gen > (g : Int) := hgt
              have HA2 : Hid (∀ i, i < k + 1 → ¬ ((g : Int) < (M i).gen ∧ (M i).gen ≠ 4294967295)) := fun i hi => by
                by_cases q : i = k
                · rw [q]; exact fun z => hgt z.1
                · exact HAll.out i (by omega)
              clear hgt
              generalize (M k).gen = gk at *
              go_wp2_with fail
              go_roundw
              case rel => exact ⟨k + 1, by omega, by go_num, HA2.out, trivial⟩
              case measure => simp [intOf]; omega
          · have hk3 : (k : Int) = 320 := by omega
            have HGn : Hid (¬ ∃ i, i < 320 ∧ (g : Int) < (M i).gen ∧ (M i).gen ≠ 4294967295) := fun ⟨i, hi, ht⟩ => HAll.out i (by omega) ht
            have HX3 : Hid (X = (⟨0, [], []⟩, epM M (g : Int) 320)) := by
              show X = _
              rw [HX.out]
              unfold epoX cX
              rw [if_neg HRg.out, if_neg HAl.out, if_neg HGn.out]
              rfl
            rw [hk3]
            clear hk hlt hk3 HAll HGn HAl HX
            obtain ⟨W, hWr⟩ : ∃ W, W = wr := ⟨_, rfl⟩
            subst hWr
            go_wp2_with fail
            go_loopw [47] (fun v47 wr2 => ∃ k : Nat, k ≤ 320 ∧ v47 = .int .i64 (k : Int) ∧ Md wr2 B wb (epM M (g : Int) k) ∧ Ext W.heap.size (fun b => b = B) W wr2) (fun j _ => 320 - (intOf j).toNat)
            case atStart => exact ⟨0, by omega, rfl, by rw [epM_zero]; exact HM.out, Ext.refl _ _ _⟩
            case round =>
              obtain ⟨k, hk, rfl, hmd, hex⟩ := hrel
              by_cases hlt : k < 320
              · have hlt' : (k : Int) < 320 := by omega
                have z0 := hmd.gen hlt
                rw [epM_at] at z0
                have f0 := hmd.fz (k * 6)
                have HMd := hideIt hmd
                have HEx := hideIt hex
                by_cases hmx : (M k).gen = 4294967295
                · have HE := hideIt (epM_same (g := (g : Int)) hmx)
                  rw [hmx] at z0
                  clear hmd hex hmx
                  go_wp2_with fail
                  go_roundw
                  case rel => exact ⟨k + 1, by omega, by go_num, by rw [HE.out]; exact HMd.out, HEx.out⟩
                  case measure => simp [intOf]; omega
                · have hmb : ((M k).gen != 4294967295) = true := by rw [bne_iff_ne]; exact hmx
                  have hsg := hmd.setGen hlt (g : Int)
                  rw [epM_at, ← epM_succ hmx] at hsg
                  have HSG := hideIt hsg
                  have HE2 := hideIt (hex.setCell (p := ⟨B, k * 6, none⟩) (Or.inr rfl) (.int .u32 (g : Int)))
                  clear hmd hex hmx hsg
                  generalize (M k).gen = gk at *
                  go_wp2_with fail
                  go_roundw
                  case rel => exact ⟨k + 1, by omega, by go_num, HSG.out, HE2.out⟩
                  case measure => simp [intOf]; omega
              · have hk3 : k = 320 := by omega
                subst hk3
                have hs5 := (hex.block w.heap.size (heap_lt HS.out) (by show ¬ w.heap.size = B; omega)).trans HS.out
                obtain ⟨r0, r1, r2, f0, f1, f2⟩ := three_cells hs5
                have HZ := hideIt (three_set hs5 (.int .u8 0) (.slice none 0 0) (.slice none 0 0))
                have HF : Hid (MsP B wb M X w (.returned (.agg #[.int .u8 0, .slice none 0 0, .slice none 0 0])) (((wr.setCell ⟨w.heap.size, 0, none⟩ (.int .u8 0)).setCell ⟨w.heap.size, 1, none⟩ (.slice none 0 0)).setCell ⟨w.heap.size, 2, none⟩ (.slice none 0 0))) := by
                  show MsP _ _ _ _ _ _ _
                  rw [HX3.out]
                  have e1 : Ext w.heap.size (Tm B wb M) w wr := (Ext.of_below HB.out _).trans hex HB.out.size (fun b _ q => Or.inl q)
                  have e2 := ((e1.setCell (p := ⟨w.heap.size, 0, none⟩) (Or.inl (Nat.le_refl _)) (.int .u8 0)).setCell (p := ⟨w.heap.size, 1, none⟩) (Or.inl (Nat.le_refl _)) (.slice none 0 0)).setCell (p := ⟨w.heap.size, 2, none⟩) (Or.inl (Nat.le_refl _)) (.slice none 0 0)
                  have e3 : Ext wr.heap.size (fun b => b = w.heap.size) wr (((wr.setCell ⟨w.heap.size, 0, none⟩ (.int .u8 0)).setCell ⟨w.heap.size, 1, none⟩ (.slice none 0 0)).setCell ⟨w.heap.size, 2, none⟩ (.slice none 0 0)) := (((Ext.refl wr.heap.size (fun b => b = w.heap.size) wr).setCell (p := ⟨w.heap.size, 0, none⟩) (Or.inr rfl) _).setCell (p := ⟨w.heap.size, 1, none⟩) (Or.inr rfl) _).setCell (p := ⟨w.heap.size, 2, none⟩) (Or.inr rfl) _
                  refine ⟨_, _, wb, rfl, IsR.nil _ _, IsU.nil _ _, hmd.ext e3 (fun b hb q => ?_), e2, fun b hb => Or.inl (epM_tm hb)⟩
                  have := H0.out.tlt (epM_tm hb)
                  omega
                clear hmd hex hs5
                go_wp2_with fail
                refine bodyPost_ret (v := .agg #[.int .u8 0, .slice none 0 0, .slice none 0 0]) ?_ rfl HF.out
                exact results_cell_row (by exact Tryz.results75) _ _ w.heap.size _ _ _ _ (by rfl) (by exact HZ.out) Tryz.underlying57 rfl (by kernel_rfl)
end
end Go.Proofs.Qxb6500847aGreatDoor.Os
