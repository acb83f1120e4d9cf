/-
  The abstract model: below, holds.
-/
import Derived.Test.Qxb6500847aGreatDoorMdK
namespace Go.Proofs.Qxb6500847aGreatDoor.Os
open Go.RowKit FloorA
set_option maxRecDepth 100000
def zp (z : Int) : Int := if z = -1 then 65535 else z
noncomputable def ancZ (M : Nat → En) (z : Int) : List Nat := open Classical in if h : ∃ l, Up M (zp z) l then Classical.choose h else []
theorem zp_pz {M : Nat → En} {x : Int} {l : List Nat} (h : Up M x l) : zp (pz x) = x := by
  match l, h with
  | [], h =>
    have e : x = 65535 := h
    subst e
    rfl
  | p :: r, h =>
    have e := h.1
    have e2 := h.2.1
    unfold pz zp
    rw [if_neg (by omega), if_neg (by omega)]
theorem ancZ_eq {M : Nat → En} {x : Int} {l : List Nat} (h : Up M x l) : ancZ M (pz x) = l := by
  have hx : ∃ l, Up M (zp (pz x)) l := ⟨l, by rw [zp_pz h]; exact h⟩
  unfold ancZ
  rw [dif_pos hx]
  have := Classical.choose_spec hx
  exact this.uniq (by rw [zp_pz h]; exact h)
section
variable {w w' : World} {B : Nat} {wb : Nat → Nat} {M : Nat → En}
set_option maxHeartbeats 2000000 in
theorem below_m (h : Md w B wb M) {j i : Nat} (hj : j < 320) {l0 : List Nat} (hU : Up M (M j).par l0) :
    Calls Tryz.prog 215 #[.pointer (some ⟨B, 0, none⟩), .int .i64 (j : Int), .int .i64 (i : Int)] w fun e w' => e = .returned (.bool (decide (i ∈ l0))) ∧ w' = w := by
  have j3 : (j : Int) < 320 := by omega
  have z := h.par hj
  have HM := hideIt h
  have HU := hideIt hU
  obtain ⟨R, hR⟩ : ∃ R, R = decide (i ∈ l0) := ⟨_, rfl⟩
  rw [← hR]
  have HR := hideIt hR
  clear h hU hR
  generalize hx : (M j).par = x0 at *
  clear hx
  go_enter Tryz.func215, Tryz.ntmps215
  go_wp2_with fail
  clear z
  go_loopw [7] (fun v7 wr => ∃ (x : Int) (l : List Nat), v7 = .int .i64 (pz x) ∧ Up M x l ∧ (i ∈ l0 ↔ i ∈ l) ∧ wr = w) (fun z _ => (ancZ M (intOf z)).length)
  case atStart => exact ⟨x0, l0, rfl, HU.out, Iff.rfl, rfl⟩
  case round =>
    obtain ⟨x, l, rfl, hu, hm, rfl⟩ := hrel
    match l, hu, hm with
    | [], hu, hm =>
      have e : x = 65535 := hu
      have hz : pz x = -1 := by rw [e]; rfl
      have HF : Hid (R = false) := by show R = false; rw [HR.out, decide_eq_false_iff_not]; exact fun q => by simpa using hm.1 q
      rw [hz]
      clear hu hm e hz
      go_wp2_with fail
      go_ret
      exact ⟨by rw [HF.out]; rfl, rfl⟩
    | p :: r, hu, hm =>
      have e := hu.1
      have p3 := hu.2.1
      have p4 : (p : Int) < 320 := by omega
      have hz : pz x = (p : Int) := by unfold pz; rw [if_neg (by omega), e]
      have HAZ := hideIt (ancZ_eq hu)
      rw [hz] at HAZ
      have HUr := hideIt hu.2.2
      have HAR := hideIt (ancZ_eq hu.2.2)
      have zpn := HM.out.par p3
      have hne : ((p : Int) != -1) = true := by rw [bne_iff_ne]; omega
      rw [hz]
      by_cases hpi : p = i
      · have HF : Hid (R = true) := by show R = true; rw [HR.out, decide_eq_true_eq]; exact hm.2 (by rw [hpi]; exact List.mem_cons_self ..)
        subst hpi
        clear hu hm e hz
        go_wp2_with fail
        go_ret
        exact ⟨by rw [HF.out]; rfl, rfl⟩
      · have HMm : Hid (i ∈ l0 ↔ i ∈ r) := hm.trans (by rw [List.mem_cons]; exact ⟨fun q => q.resolve_left (fun z => hpi z.symm), Or.inr⟩)
        have hb : ((p : Int) == (i : Int)) = false := by rw [beq_eq_false_iff_ne]; omega
        clear hu hm e hz hpi
        generalize hq : (M p).par = y at *
        clear hq
        go_wp2_with fail
        go_roundw
        case rel => exact ⟨y, r, rfl, HUr.out, HMm.out, trivial⟩
        case measure =>
          show (ancZ M (intOf (.int .i64 (pz y)))).length < (ancZ M (intOf (.int .i64 (p : Int)))).length
          show (ancZ M (pz y)).length < (ancZ M (p : Int)).length
          rw [HAZ.out, HAR.out]
          simp
set_option maxHeartbeats 2000000 in
theorem holds_m (h : Md w B wb M) (hM : Mk M) {i : Nat} (hi : i < 320) (a : Int) :
    Calls Tryz.prog 217 #[.pointer (some ⟨B, 0, none⟩), .int .i64 (i : Int), .int .u64 a] w fun e w' => e = .returned (.bool (decide ((M i).typ ≠ 0 ∧ (M i).bas ≤ a ∧ a < (M i).bas + (M i).siz))) ∧ ∃ m, w' = w.drewN m := by
  have i3 : (i : Int) < 320 := by omega
  have z := h.bas hi
  have HL := hideIt (live_m h hi)
  have HE := hideIt (end_m h hM hi)
  obtain ⟨R, hR⟩ : ∃ R, R = decide ((M i).typ ≠ 0 ∧ (M i).bas ≤ a ∧ a < (M i).bas + (M i).siz) := ⟨_, rfl⟩
  rw [← hR]
  have HR := hideIt hR
  clear h hM hR
  by_cases ht : (M i).typ = 0
  · have hd : decide ((M i).typ ≠ 0) = false := by simp [ht]
    rw [hd] at HL
    have HF : Hid (R = false) := by show R = false; rw [HR.out, decide_eq_false_iff_not]; exact fun q => q.1 ht
    clear hd ht HR
    go_enter Tryz.func217, Tryz.ntmps217
    go_wp2_with (go_at_call 203; refine HL.out.mono ?_; rintro e w' ⟨rfl, hw'⟩; obtain rfl := hw'.symm)
    go_ret
    exact ⟨by rw [HF.out]; rfl, 0, rfl⟩
  · have hd : decide ((M i).typ ≠ 0) = true := by simp [ht]
    rw [hd] at HL
    by_cases hb : (M i).bas ≤ a
    · have HF : Hid (R = decide (a < (M i).bas + (M i).siz)) := by show R = _; rw [HR.out]; simp [ht, hb]
      clear hd ht HR
      generalize (M i).bas + (M i).siz = en at *
      generalize (M i).bas = ba at *
      go_enter Tryz.func217, Tryz.ntmps217
      go_wp2_with (first | (go_at_call 203; refine HL.out.mono ?_; rintro e w' ⟨rfl, hw'⟩; obtain rfl := hw'.symm) | (go_at_call 204; refine HE.out.mono ?_; rintro e w' ⟨rfl, m1, hw'⟩; obtain rfl := hw'.symm))
      go_ret
      exact ⟨by rw [HF.out]; rfl, _, rfl⟩
    · have HF : Hid (R = false) := by show R = false; rw [HR.out, decide_eq_false_iff_not]; exact fun q => hb q.2.1
      clear hd ht HR
      generalize (M i).bas = ba at *
      go_enter Tryz.func217, Tryz.ntmps217
      go_wp2_with (go_at_call 203; refine HL.out.mono ?_; rintro e w' ⟨rfl, hw'⟩; obtain rfl := hw'.symm)
      go_ret
      exact ⟨by rw [HF.out]; rfl, 0, rfl⟩
end
end Go.Proofs.Qxb6500847aGreatDoor.Os
