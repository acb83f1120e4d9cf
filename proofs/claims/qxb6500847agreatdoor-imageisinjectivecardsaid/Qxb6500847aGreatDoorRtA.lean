/-
  related: is the one the other, or above it.
-/
import Derived.Test.Qxb6500847aGreatDoorMdN
namespace Go.Proofs.Qxb6500847aGreatDoor.Os
open Go.RowKit FloorA
set_option maxRecDepth 100000
section
variable {w w' : World} {B : Nat} {wb : Nat → Nat} {M : Nat → En}
set_option maxHeartbeats 2000000 in
theorem related_m (h : Md w B wb M) {x0 : Int} {l0 : List Nat} (hU : Up M x0 l0) (i : Nat) :
    Calls Tryz.prog 97 #[.pointer (some ⟨B, 0, none⟩), .int .i64 (pz x0), .int .i64 (i : Int)] w fun e w' => e = .returned (.bool (decide (i ∈ l0))) ∧ w' = w := by
  have HM := hideIt h
  have HU := hideIt hU
  obtain ⟨R, hR⟩ : ∃ R, R = decide (i ∈ l0) := ⟨_, rfl⟩
  rw [← hR]
  have HR := hideIt hR
  clear h hU hR
  go_enter Tryz.func97, Tryz.ntmps97
  go_wp2_with fail
  go_loopw [1] (fun v1 wr => ∃ (x : Int) (l : List Nat), v1 = .int .i64 (pz x) ∧ Up M x l ∧ (i ∈ l0 ↔ i ∈ l) ∧ wr = w) (fun z _ => (ancZ M (intOf z)).length)
  case atStart => exact ⟨x0, l0, rfl, HU.out, Iff.rfl, rfl⟩
  case round =>
    obtain ⟨x, l, rfl, hu, hm, rfl⟩ := hrel
    match l, hu, hm with
    | [], hu, hm =>
      have e : x = 65535 := hu
      have hz : pz x = -1 := by rw [e]; rfl
      have HF : Hid (R = false) := by show R = false; rw [HR.out, decide_eq_false_iff_not]; exact fun q => by simpa using hm.1 q
      rw [hz]
      clear hu hm e hz
      go_wp2_with fail
      go_ret
      exact ⟨by rw [HF.out]; rfl, rfl⟩
    | p :: r, hu, hm =>
      have e := hu.1
      have p3 := hu.2.1
      have p4 : (p : Int) < 320 := by omega
      have hz : pz x = (p : Int) := by unfold pz; rw [if_neg (by omega), e]
      have HAZ := hideIt (ancZ_eq hu)
      rw [hz] at HAZ
      have HUr := hideIt hu.2.2
      have HAR := hideIt (ancZ_eq hu.2.2)
      have zpn := HM.out.par p3
      have hne : ((p : Int) != -1) = true := by rw [bne_iff_ne]; omega
      rw [hz]
      by_cases hpi : p = i
      · have HF : Hid (R = true) := by show R = true; rw [HR.out, decide_eq_true_eq]; exact hm.2 (by rw [hpi]; exact List.mem_cons_self ..)
        subst hpi
        clear hu hm e hz
        go_wp2_with fail
        go_ret
        exact ⟨by rw [HF.out]; rfl, rfl⟩
      · have HMm : Hid (i ∈ l0 ↔ i ∈ r) := hm.trans (by rw [List.mem_cons]; exact ⟨fun q => q.resolve_left (fun z => hpi z.symm), Or.inr⟩)
        have hb : ((p : Int) == (i : Int)) = false := by rw [beq_eq_false_iff_ne]; omega
        clear hu hm e hz hpi
        generalize hq : (M p).par = y at *
        clear hq
        go_wp2_with fail
        go_roundw
        case rel => exact ⟨y, r, rfl, HUr.out, HMm.out, trivial⟩
        case measure =>
          show (ancZ M (intOf (.int .i64 (pz y)))).length < (ancZ M (intOf (.int .i64 (p : Int)))).length
          show (ancZ M (pz y)).length < (ancZ M (p : Int)).length
          rw [HAZ.out, HAR.out]
          simp
end
end Go.Proofs.Qxb6500847aGreatDoor.Os
