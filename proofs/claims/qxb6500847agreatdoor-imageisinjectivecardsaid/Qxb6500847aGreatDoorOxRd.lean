/-
  Fit, exactly.
-/
import Derived.Test.Qxb6500847aGreatDoorOxRp
import Derived.Laws.Cover1
namespace Go.Proofs.Qxb6500847aGreatDoor.Os
open Go.RowKit FloorA
set_option maxRecDepth 100000
section
variable {A : Nat} {rb sb : Nat → Nat} {s : Av} {tl : Nat → List Int} {ws : Nat → Nat → Nat → Int} {w : World} {L : Nat → List Nat} {n : Nat}
def FiXP (X : Rs) (w : World) (e : Ending) (w' : World) : Prop :=
  (∃ v c, X = bad c ∧ e = .returned (.tuple #[.int .i64 0, v]) ∧ Refu w v w' c) ∨ ((∃ x : Int, X = ⟨0, [], [x]⟩ ∧ 0 ≤ x ∧ x ≤ 32 ∧ e = .returned (.tuple #[.int .i64 x, .nilIface])) ∧ Below w.heap.size w w')
set_option maxHeartbeats 4000000 in
theorem Fit_x (h : Ms w A rb sb s tl ws) (hI : IV s tl L n) (hX : IX s tl L n) (hK : Kd w) (kl : 1 < w.heap.size) (i : Nat) (g : Int) {t bt : Nat} (ht : t < 256) (hbt : bt < 256) :
    Calls Tryz.prog 52 #[.pointer (some ⟨A, 0, none⟩), .agg #[.int .u16 (i : Int), .int .u32 g], .int .u8 (t : Int), .int .u8 (bt : Int)] w (FiXP (fitX (ob s ws) i g t bt) w) := by
  have bB := alloc_below (w := w) (.cells #[.int .u16 (i : Int), .int .u32 g] 32)
  have HM := hideIt (h.below bB)
  have HB := hideIt bB
  have HI := hideIt hI
  have HXx := hideIt hX
  have HK0 := hideIt (hK.below bB kl)
  have l1 : (w.alloc (.cells #[.int .u16 (i : Int), .int .u32 g] 32)).heap.size = w.heap.size + 1 := Deep.nblk_alloc _ _
  have HP := hideIt (fun c => place_x HM.out hI hX HK0.out (by omega) i g ht hbt c)
  clear h hI bB hK hX
  go_enter Tryz.func52, Tryz.ntmps52
  go_wp2_with fail
  go_at_call 130
  refine (HP.out _).mono ?_
  rintro e w1 ⟨hb1, hh⟩
  have HB1 := hideIt (Below.thr HB.out hb1)
  have HM1 := hideIt (HM.out.below hb1)
  clear hb1 l1 HP
  rcases hh with ⟨hl, h1, hz0, t1, t7, T, E, hT, hE, q47, q4, rfl⟩ | ⟨v, code, rfl, hc, hv, hs⟩
  · have i1 : 256 ≤ i := by
      obtain ⟨k, ek, k7, kk⟩ := HI.out.ge.typ i hl.1
      have : k = 1 := by omega
      exact (kk (by omega)).1 this
    have hreg : IsReg s i := ⟨i1, hl.1, h1⟩
    have HPC : Hid (plC s i g t bt = 0) := by
      show plC s i g t bt = 0
      unfold plC
      rw [if_pos ⟨hl, h1⟩]
      exact hz0
    have HSM := hideIt (spM_eq (ws := ws) (t := t) (bt := bt) HXx.out HI.out hreg hT hE)
    have hEL : E ≤ 281474976710656 := by
      have := HXx.out.gm.lim i hl.1 hl.2.2.1
      omega
    have hspE : spN E (alU T (2 ^ szQ t bt)) (2 ^ szQ t bt) ≤ E := by
      unfold spN
      split
      · exact Nat.le_trans (Nat.div_le_self _ _) (Nat.sub_le _ _)
      · omega
    generalize spN E (alU T (2 ^ szQ t bt)) (2 ^ szQ t bt) = spc at *
    generalize alU T (2 ^ szQ t bt) = stN at *
    generalize 2 ^ szQ t bt = zN at *
    obtain ⟨sp, hsp⟩ : ∃ z : Int, z = (spc : Int) := ⟨_, rfl⟩
    rw [← hsp]
    have p0 : 0 ≤ sp := by omega
    have p1 : sp < 18446744073709551616 := by omega
    have HPe := hideIt hsp
    clear hl h1 hreg hz0 q4 hE hT q47 hsp hspE
    obtain ⟨fe, hfx, hfe⟩ : ∃ fe : Nat, (spr (ob s ws) (loT t) (hiT t)).length = fe ∧ ∀ w2 : World, Am w2 A s → Calls Tryz.prog 131 #[.pointer (some ⟨A, 0, none⟩), .int .u8 (t : Int)] w2 fun e w' => e = .returned (.int .i64 (fe : Int)) ∧ w' = w2 := by
      refine ⟨cnI s (loT t) (hiT t), fe_eq HXx.out HI.out t, fun w2 a => ?_⟩
      have := freeEntries_walk a HI.out.ge.wd t
      unfold loT hiT
      by_cases q : t = 1
      · rw [if_pos q] at this ⊢
        rw [if_pos q]
        exact this
      · rw [if_neg q] at this ⊢
        rw [if_neg q]
        exact this
    obtain ⟨rm, hrx, htr⟩ : ∃ rm : Nat, rmM (ob s ws) t = (rm : Int) ∧ ∀ w2 : World, Ms w2 A rb sb s tl ws → Calls Tryz.prog 132 #[.pointer (some ⟨A, 0, none⟩), .int .u8 (t : Int)] w2 fun e w' => e = .returned (.int .i64 (rm : Int)) ∧ w' = w2 := by
      by_cases q : t = 1
      · subst q
        exact ⟨64, rfl, fun w2 _ => tableRoom_one A w2⟩
      · exact ⟨(tl (t - 2)).length, rmM_eq HXx.out q t1 t7, fun w2 a => tableRoom_walk a (by omega) t7⟩
    have HFX : Hid (fitX (ob s ws) i g t bt = ⟨0, [], [min (min (if sp < 32 then sp else 32) (fe : Int)) (rm : Int)]⟩) := by
      show fitX (ob s ws) i g t bt = _
      rw [fitX_ok HPC.out HSM.out hfx hrx, HPe.out]
      by_cases q : spc < 32
      · rw [if_pos q, if_pos (by omega)]
      · rw [if_neg q, if_neg (by omega)]
    have HFE := hideIt hfe
    have HTR := hideIt htr
    have HB2 := hideIt (alloc_below (w := w1) (.cells #[.int .u16 (i : Int), .int .u8 (t : Int), .int .u64 (zN : Int), .int .u64 (stN : Int), .int .u64 sp] 267))
    have HM2 := hideIt (HM1.out.below HB2.out)
    have HFin : Hid (∀ x : Int, x = min (min (if sp < 32 then sp else 32) (fe : Int)) (rm : Int) → FiXP (fitX (ob s ws) i g t bt) w (.returned (.tuple #[.int .i64 x, .nilIface])) (w1.alloc (.cells #[.int .u16 (i : Int), .int .u8 (t : Int), .int .u64 (zN : Int), .int .u64 (stN : Int), .int .u64 sp] 267))) := fun x e => Or.inr ⟨⟨x, by rw [HFX.out, e], by rw [e]; split <;> omega, by rw [e]; split <;> omega, rfl⟩, Below.thr HB1.out HB2.out⟩
    obtain ⟨rmI, hrmI⟩ : ∃ z : Int, z = (rm : Int) := ⟨_, rfl⟩
    obtain ⟨feI, hfeI⟩ : ∃ z : Int, z = (fe : Int) := ⟨_, rfl⟩
    rw [← hrmI] at HFin HTR
    rw [← hfeI] at HFin HFE
    clear hfe htr hfx hrx HFX HSM hrmI hfeI hEL
    by_cases hsp : sp < 32
    · have hsp1 : sp < 9223372036854775808 := by omega
      rw [if_pos hsp] at HFin
      have HFn := hideIt HFin.out
      clear HFin
      go_wp2_with (first | (go_at_call 131; refine (HFE.out _ HM2.out.am).mono ?_; rintro e w' ⟨rfl, hw'⟩; obtain rfl := hw'.symm) | (go_at_call 132; refine (HTR.out _ HM2.out).mono ?_; rintro e w' ⟨rfl, hw'⟩; obtain rfl := hw'.symm))
      all_goals first | (refine bodyPost_ret (v := .tuple #[.int .i64 feI, .nilIface]) ?_ rfl (HFn.out feI (by omega)); simp [results, Tryz.results52]; done) | (refine bodyPost_ret (v := .tuple #[.int .i64 rmI, .nilIface]) ?_ rfl (HFn.out rmI (by omega)); simp [results, Tryz.results52]; done) | (refine bodyPost_ret (v := .tuple #[.int .i64 sp, .nilIface]) ?_ rfl (HFn.out sp (by omega)); simp [results, Tryz.results52]; done)
    · have hsp' : ¬ sp < 32 := hsp
      rw [if_neg hsp] at HFin
      have HFn := hideIt HFin.out
      clear HFin
      go_wp2_with (first | (go_at_call 131; refine (HFE.out _ HM2.out.am).mono ?_; rintro e w' ⟨rfl, hw'⟩; obtain rfl := hw'.symm) | (go_at_call 132; refine (HTR.out _ HM2.out).mono ?_; rintro e w' ⟨rfl, hw'⟩; obtain rfl := hw'.symm))
      all_goals first | (refine bodyPost_ret (v := .tuple #[.int .i64 feI, .nilIface]) ?_ rfl (HFn.out feI (by omega)); simp [results, Tryz.results52]; done) | (refine bodyPost_ret (v := .tuple #[.int .i64 rmI, .nilIface]) ?_ rfl (HFn.out rmI (by omega)); simp [results, Tryz.results52]; done) | (refine bodyPost_ret (v := .tuple #[.int .i64 32, .nilIface]) ?_ rfl (HFn.out 32 (by omega)); simp [results, Tryz.results52]; done)
  · obtain ⟨b, rfl, hbc⟩ := hv
    have HF : Hid (FiXP (fitX (ob s ws) i g t bt) w (.returned (.tuple #[.int .i64 0, .iface 212 (.pointer (some ⟨b, 0, none⟩))])) (w1.alloc (.cells #[.int .u16 0, .int .u8 0, .int .u64 0, .int .u64 0, .int .u64 0] 267))) := Or.inl ⟨_, code, fitX_err hs.symm hc, rfl, IsErr.below ⟨b, rfl, hbc⟩ (alloc_below _), hc, Below.thr HB1.out (alloc_below _)⟩
    clear hbc hs hc
    go_wp2_with fail
    exact bodyPost_ret (by simp [results, Tryz.results52]) rfl HF.out
end
end Go.Proofs.Qxb6500847aGreatDoor.Os
