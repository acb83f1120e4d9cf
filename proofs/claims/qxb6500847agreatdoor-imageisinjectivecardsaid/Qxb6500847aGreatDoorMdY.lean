/-
  The abstract model: locate.
-/
import Derived.Test.Qxb6500847aGreatDoorMdM
import Derived.Test.Qxb6500847aGreatDoorMdN
namespace Go.Proofs.Qxb6500847aGreatDoor.Os
open Go.RowKit FloorA
set_option maxRecDepth 100000
/-- The entry's bytes include a. -/
def Hm (M : Nat → En) (a : Int) (c : Nat) : Prop := (M c).typ ≠ 0 ∧ (M c).bas ≤ a ∧ a < (M c).bas + (M c).siz
section
variable {s : Av} {tl : Nat → List Int} {ws : Nat → Nat → Nat → Int} {L : Nat → List Nat} {n : Nat} {a : Int}
theorem hm_hol {c : Nat} (hc : c < 320) : Hm (ob s ws) a c ↔ Hol s a c := by
  unfold Hm Hol
  rw [ob_at _ _ hc]
  exact ⟨fun q => ⟨hc, q⟩, fun q => q.2⟩
theorem loc_ok (h : Sd s tl ws L n) (ha : ¬ 281474976710656 ≤ a) {k : Nat} (hk : k < 320) (hh : Hm (ob s ws) a k) (hn : ¬ ∃ x, x < 320 ∧ Hm (ob s ws) a x ∧ (ob s ws x).par = (k : Int)) : locX (ob s ws) a = ⟨0, [(k, (ob s ws k).gen)], []⟩ := by
  rw [ob_at _ _ hk]
  refine locX_ok h.ix h.iv ha ((hm_hol (ws := ws) hk).1 hh) (fun hr q hq hol => hn ⟨q, hol.1, (hm_hol hol.1).2 hol, ?_⟩)
  exact (((kds_reg h.ix h.iv hr).1 q).1 hq).2.2
theorem loc_far (h : Sd s tl ws L n) (hall : ∀ k, k < 320 → Hm (ob s ws) a k → ∃ x, x < 320 ∧ Hm (ob s ws) a x ∧ (ob s ws x).par = (k : Int)) {c : Nat} (hc : c < 320) (hh : Hm (ob s ws) a c) :
    ∀ m, ∃ d l, d < 320 ∧ Hm (ob s ws) a d ∧ Up (ob s ws) (ob s ws d).par l ∧ m ≤ l.length
  | 0 => by
    have ht := hh.1
    have e := ob_at s ws hc
    rw [e] at ht
    obtain ⟨l, hl⟩ := up_ex (ws := ws) h.iv hc ht
    exact ⟨c, l, hc, hh, by rw [e]; exact hl, Nat.zero_le _⟩
  | m + 1 => by
    obtain ⟨d, l, h1, h2, h3, h4⟩ := loc_far h hall hc hh m
    obtain ⟨x, x1, x2, x3⟩ := hall d h1 h2
    refine ⟨x, d :: l, x1, x2, ?_, by simp; omega⟩
    rw [x3]
    exact ⟨rfl, h1, h3⟩
theorem loc_no (h : Sd s tl ws L n) (ha : ¬ 281474976710656 ≤ a) (hall : ∀ k, k < 320 → Hm (ob s ws) a k → ∃ x, x < 320 ∧ Hm (ob s ws) a x ∧ (ob s ws x).par = (k : Int)) : locX (ob s ws) a = bad 16 := by
  refine locX_none h.ix h.iv ha (fun c _ hol => ?_)
  obtain ⟨d, l, h1, h2, h3, h4⟩ := loc_far h hall hol.1 ((hm_hol hol.1).2 hol) 321
  have := anc_len (ob s ws) d
  rw [anc_eq h3] at this
  omega
variable {w w' : World} {B : Nat} {wb : Nat → Nat}
set_option maxHeartbeats 8000000 in
theorem locate_m (h : Md w B wb (ob s ws)) (hS : Sd s tl ws L n) (a : Nat) :
    Calls Tryz.prog 79 #[.pointer (some ⟨B, 0, none⟩), .int .u64 (a : Int)] w (MsP B wb (ob s ws) (locX (ob s ws) (a : Int), ob s ws) w) := by
  have hb0 := alloc_below (w := w) (.cells #[.int .u8 0, .slice none 0 0, .slice none 0 0] 57)
  have hs0 : (w.alloc (.cells #[.int .u8 0, .slice none 0 0, .slice none 0 0] 57)).heap[w.heap.size]? = some (.cells #[.int .u8 0, .slice none 0 0, .slice none 0 0] 57 (0, 0)) := heap_new _ _
  have H0 := hideIt h
  have HM := hideIt (h.below hb0)
  have HB := hideIt hb0
  have HS := hideIt hs0
  have HSd := hideIt hS
  have HMk := hideIt hS.num
  obtain ⟨X, hX⟩ : ∃ X, X = (locX (ob s ws) (a : Int), ob s ws) := ⟨_, rfl⟩
  rw [← hX]
  have HX := hideIt hX
  clear h hb0 hX hS hs0
  obtain ⟨W, hW⟩ : ∃ W, W = w.alloc (.cells #[.int .u8 0, .slice none 0 0, .slice none 0 0] 57) := ⟨_, rfl⟩
  by_cases hr : (a : Int) ≥ 281474976710656
  · have HX3 : Hid (X = (Os.bad 10, ob s ws)) := by show X = _; rw [HX.out, locX_rng _ hr]
    clear HX
    go_enter Tryz.func79, Tryz.ntmps79
    go_upto_region 1 with fail
    rw [← hW] at HM HB HS ⊢
    clear hW
    go_wp2_with (go_at_call 90; refine (fail_m _ _).mono ?_; rintro e w3 ⟨rfl, hb3⟩; have hs3 := (hb3.block _ (heap_lt HS.out)).trans HS.out; obtain ⟨q0, q1, q2, k0, k1, k2⟩ := three_cells hs3; have HZ := hideIt (three_set hs3 (.int .u8 10) (.slice none 0 0) (.slice none 0 0)); have HF := hideIt (MsP.badR H0.out (Below.thr HB.out hb3) (Nat.le_refl _) HX3.out (.int .u8 10) (.slice none 0 0) (.slice none 0 0)); clear hb3 hs3)
    refine bodyPost_ret (v := .agg #[.int .u8 10, .slice none 0 0, .slice none 0 0]) ?_ rfl HF.out
    exact results_cell_row (by exact Tryz.results79) _ _ w.heap.size _ _ _ _ (by rfl) (by exact HZ.out) Tryz.underlying57 rfl (by kernel_rfl)
  · have HRg : Hid (¬ 281474976710656 ≤ (a : Int)) := hr
    go_enter Tryz.func79, Tryz.ntmps79
    go_upto_region 1 with fail
    rw [← hW] at HM HB HS ⊢
    clear hW
    go_wp2_with fail
    go_loopw [11] (fun v11 wr => ∃ k : Nat, k ≤ 320 ∧ v11 = .int .i64 (k : Int) ∧ (∀ i, i < k → Hm (ob s ws) (a : Int) i → ∃ x, x < 320 ∧ Hm (ob s ws) (a : Int) x ∧ (ob s ws x).par = (i : Int)) ∧ Below W.heap.size W wr) (fun j _ => 320 - (intOf j).toNat)
    case atStart => exact ⟨0, by omega, rfl, fun i hi => by omega, Below.refl _ _⟩
    case round =>
      obtain ⟨k, hk, rfl, hall, hbr⟩ := hrel
      have HAll := hideIt hall
      have HBr := hideIt hbr
      clear hall
      by_cases hlt : k < 320
      · have hlt' : (k : Int) < 320 := by omega
        have HH := hideIt (fun w' (hb : Below W.heap.size W w') (i : Nat) (hi : i < 320) => holds_m (HM.out.below hb) HMk.out hi (a : Int))
        have HH1 := hideIt (HH.out wr hbr k hlt)
        by_cases hq : Hm (ob s ws) (a : Int) k
        · have hd : decide ((ob s ws k).typ ≠ 0 ∧ (ob s ws k).bas ≤ (a : Int) ∧ (a : Int) < (ob s ws k).bas + (ob s ws k).siz) = true := decide_eq_true hq
          rw [hd] at HH1
          have HQ := hideIt hq
          clear hd hq hbr
          go_wp2_with (go_at_call 217; refine HH1.out.mono ?_; rintro e w2 ⟨rfl, m1, hw2⟩; have HB2 := hideIt (show Below W.heap.size W w2 from by rw [hw2]; exact Below.thr HBr.out (belowN _ _)); clear hw2)
          go_loopw [6, 19] (fun v6 v19 wr => ∃ (j : Nat) (f : Bool), j ≤ 320 ∧ v19 = .int .i64 (j : Int) ∧ v6 = .bool f ∧ (f = true ↔ ∃ x, x < j ∧ Hm (ob s ws) (a : Int) x ∧ (ob s ws x).par = (k : Int)) ∧ Below W.heap.size W wr) (fun _ j _ => 320 - (intOf j).toNat)
          case atStart => exact ⟨0, false, by omega, rfl, rfl, ⟨fun q => by simp at q, fun ⟨x, q, _⟩ => by omega⟩, HB2.out⟩
          case round =>
            obtain ⟨j, f, hj, rfl, rfl, hf, hbr2⟩ := hrel
            have HFf := hideIt hf
            have HBr2 := hideIt hbr2
            by_cases hlj : j < 320
            · have hlj' : (j : Int) < 320 := by omega
              have HH2 := hideIt (HH.out wr hbr2 j hlj)
              by_cases hqj : Hm (ob s ws) (a : Int) j
              · have hd : decide ((ob s ws j).typ ≠ 0 ∧ (ob s ws j).bas ≤ (a : Int) ∧ (a : Int) < (ob s ws j).bas + (ob s ws j).siz) = true := decide_eq_true hqj
                rw [hd] at HH2
                have HPr := hideIt (fun w' (hb : Below W.heap.size W w') => (HM.out.below hb).par hlj)
                by_cases hp : (ob s ws j).par = (k : Int)
                · have HF2 : Hid (true = true ↔ ∃ x, x < j + 1 ∧ Hm (ob s ws) (a : Int) x ∧ (ob s ws x).par = (k : Int)) := ⟨fun _ => ⟨j, by omega, hqj, hp⟩, fun _ => rfl⟩
                  have hpz : pz (ob s ws j).par = (k : Int) := by rw [hp]; unfold pz; rw [if_neg (by omega)]
                  rw [hpz] at HPr
                  clear hd hqj hp hf hbr2 hpz
                  go_wp2_with (go_at_call 217; refine HH2.out.mono ?_; rintro e w4 ⟨rfl, m2, hw4⟩; have HB4 := hideIt (show Below W.heap.size W w4 from by rw [hw4]; exact Below.thr HBr2.out (belowN _ _)); have zp4 := HPr.out _ HB4.out; clear hw4)
                  go_roundw
                  case rel => exact ⟨j + 1, true, by omega, by go_num, rfl, ⟨fun _ => HF2.out.1 trivial, fun _ => rfl⟩, HB4.out⟩
                  case measure => simp [intOf]; omega
                · have HF2 : Hid (f = true ↔ ∃ x, x < j + 1 ∧ Hm (ob s ws) (a : Int) x ∧ (ob s ws x).par = (k : Int)) := by
                    refine hf.trans ⟨fun ⟨x, x1, x2⟩ => ⟨x, by omega, x2⟩, fun ⟨x, x1, x2, x3⟩ => ⟨x, ?_, x2, x3⟩⟩
                    by_cases q : x = j
                    · subst q; exact absurd x3 hp
                    · omega
                  have hpb : (pz (ob s ws j).par == (k : Int)) = false := by
                    rw [beq_eq_false_iff_ne]
                    intro q
                    unfold pz at q
                    split at q
                    · omega
                    · exact hp q
                  generalize pz (ob s ws j).par = pj at *
                  clear hd hqj hp hf hbr2
                  go_wp2_with (go_at_call 217; refine HH2.out.mono ?_; rintro e w4 ⟨rfl, m2, hw4⟩; have HB4 := hideIt (show Below W.heap.size W w4 from by rw [hw4]; exact Below.thr HBr2.out (belowN _ _)); have zp4 := HPr.out _ HB4.out; clear hw4)
                  go_roundw
                  case rel => exact ⟨j + 1, f, by omega, by go_num, rfl, HF2.out, HB4.out⟩
                  case measure => simp [intOf]; omega
              · have hd : decide ((ob s ws j).typ ≠ 0 ∧ (ob s ws j).bas ≤ (a : Int) ∧ (a : Int) < (ob s ws j).bas + (ob s ws j).siz) = false := decide_eq_false hqj
                rw [hd] at HH2
                have HF2 : Hid (f = true ↔ ∃ x, x < j + 1 ∧ Hm (ob s ws) (a : Int) x ∧ (ob s ws x).par = (k : Int)) := by
                  refine hf.trans ⟨fun ⟨x, x1, x2⟩ => ⟨x, by omega, x2⟩, fun ⟨x, x1, x2, x3⟩ => ⟨x, ?_, x2, x3⟩⟩
                  by_cases q : x = j
                  · subst q; exact absurd x2 hqj
                  · omega
                clear hd hqj hf hbr2
                go_wp2_with (go_at_call 217; refine HH2.out.mono ?_; rintro e w4 ⟨rfl, m2, hw4⟩; have HB4 := hideIt (show Below W.heap.size W w4 from by rw [hw4]; exact Below.thr HBr2.out (belowN _ _)); clear hw4)
                go_roundw
                case rel => exact ⟨j + 1, f, by omega, by go_num, rfl, HF2.out, HB4.out⟩
                case measure => simp [intOf]; omega
            · have hj3 : j = 320 := by omega
              subst hj3
              cases f with
              | true =>
                have HA2 : Hid (∀ i, i < k + 1 → Hm (ob s ws) (a : Int) i → ∃ x, x < 320 ∧ Hm (ob s ws) (a : Int) x ∧ (ob s ws x).par = (i : Int)) := fun i hi q => by
                  by_cases e : i = k
                  · rw [e]; exact hf.1 rfl
                  · exact HAll.out i (by omega) q
                clear hf hbr2 HFf
                go_wp2_with fail
                go_roundw
                case rel => exact ⟨k + 1, by omega, by go_num, HA2.out, HBr2.out⟩
                case measure => simp [intOf]; omega
              | false =>
                have HX3 : Hid (X = (⟨0, [(k, (ob s ws k).gen)], []⟩, ob s ws)) := by
                  show X = _
                  rw [HX.out, loc_ok HSd.out (by have := HRg.out; omega) hlt HQ.out (fun q => by simpa using hf.2 q)]
                have HRf := hideIt (ref_m (HM.out.below hbr2) hlt)
                have HS5 := hideIt ((hbr2.block _ (heap_lt HS.out)).trans HS.out)
                have HB5 := hideIt (Below.thr HB.out hbr2)
                clear hf hbr2 HFf HX
                generalize (ob s ws k).gen = gk at *
                go_wp2_with (go_at_call 206; refine HRf.out.mono ?_; rintro e w6 ⟨rfl, hb6⟩; have hs6 := (hb6.block _ (heap_lt HS5.out)).trans HS5.out; have hs7 := (heap_alloc_old w6 (.cells #[.int .u16 (k : Int), .int .u32 gk] 32) (heap_lt hs6)).trans hs6; obtain ⟨q0, q1, q2, k0, k1, k2⟩ := three_cells hs7; have HZ := hideIt (three_set hs7 (.int .u8 0) (.slice (some ⟨w6.heap.size, 0, none⟩) 1 1) (.slice none 0 0)); have HF := hideIt (MsP.finR (X := ⟨0, [(k, gk)], []⟩) H0.out (Below.thr (Below.thr HB5.out hb6) (alloc_below (w := w6) (.cells #[.int .u16 (k : Int), .int .u32 gk] 32))) (Nat.le_refl w.heap.size) rfl (isR_new (n := 1) (heap_new _ _) (by have := heap_lt hs6; omega)) (IsU.nil _ _) (.int .u8 0) (.slice (some ⟨w6.heap.size, 0, none⟩) 1 1) (.slice none 0 0)); clear hb6 hs6 hs7)
                rw [← HX3.out] at HF
                refine bodyPost_ret (v := .agg #[.int .u8 0, .slice (some ⟨w6.heap.size, 0, none⟩) 1 1, .slice none 0 0]) ?_ rfl HF.out
                exact results_cell_row (by exact Tryz.results79) _ _ w.heap.size _ _ _ _ (by rfl) (by exact HZ.out) Tryz.underlying57 rfl (by kernel_rfl)
        · have hd : decide ((ob s ws k).typ ≠ 0 ∧ (ob s ws k).bas ≤ (a : Int) ∧ (a : Int) < (ob s ws k).bas + (ob s ws k).siz) = false := decide_eq_false hq
          rw [hd] at HH1
          have HA2 : Hid (∀ i, i < k + 1 → Hm (ob s ws) (a : Int) i → ∃ x, x < 320 ∧ Hm (ob s ws) (a : Int) x ∧ (ob s ws x).par = (i : Int)) := fun i hi q => by
            by_cases e : i = k
            · subst e; exact absurd q hq
            · exact HAll.out i (by omega) q
          clear hd hq hbr
          go_wp2_with (go_at_call 217; refine HH1.out.mono ?_; rintro e w2 ⟨rfl, m1, hw2⟩; have HB2 := hideIt (show Below W.heap.size W w2 from by rw [hw2]; exact Below.thr HBr.out (belowN _ _)); clear hw2)
          go_roundw
          case rel => exact ⟨k + 1, by omega, by go_num, HA2.out, HB2.out⟩
          case measure => simp [intOf]; omega
      · have hk3 : k = 320 := by omega
        subst hk3
        have HX3 : Hid (X = (Os.bad 16, ob s ws)) := by show X = _; rw [HX.out, loc_no HSd.out (by have := HRg.out; omega) HAll.out]
        have HS5 := hideIt ((hbr.block _ (heap_lt HS.out)).trans HS.out)
        have HB5 := hideIt (Below.thr HB.out hbr)
        clear hbr HX HAll
        go_wp2_with (go_at_call 90; refine (fail_m _ _).mono ?_; rintro e w3 ⟨rfl, hb3⟩; have hs3 := (hb3.block _ (heap_lt HS5.out)).trans HS5.out; obtain ⟨q0, q1, q2, k0, k1, k2⟩ := three_cells hs3; have HZ := hideIt (three_set hs3 (.int .u8 16) (.slice none 0 0) (.slice none 0 0)); have HF := hideIt (MsP.badR H0.out (Below.thr HB5.out hb3) (Nat.le_refl _) HX3.out (.int .u8 16) (.slice none 0 0) (.slice none 0 0)); clear hb3 hs3)
        refine bodyPost_ret (v := .agg #[.int .u8 16, .slice none 0 0, .slice none 0 0]) ?_ rfl HF.out
        exact results_cell_row (by exact Tryz.results79) _ _ w.heap.size _ _ _ _ (by rfl) (by exact HZ.out) Tryz.underlying57 rfl (by kernel_rfl)
end
end Go.Proofs.Qxb6500847aGreatDoor.Os
