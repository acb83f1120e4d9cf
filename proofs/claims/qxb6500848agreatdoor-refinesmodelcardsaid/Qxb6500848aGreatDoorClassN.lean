/-
  Class, and what its failure means.
-/
import Derived.Test.Qxb6500848aGreatDoorInternN
import Derived.Test.Qxb6500848aGreatDoorBuildA
import Derived.Test.Qxb6500848aGreatDoorPlainW
namespace Go.Proofs.Qxb6500848aGreatDoor
open Go.RowKit Pl Go.Maps
set_option maxRecDepth 100000

set_option maxHeartbeats 1000000 in
theorem class_walkN {X : Nat → Prop} {w : World} {ab nb : Nat} {lim : Int} {A : List Nd} (hS : St X w ab nb lim A) (hlim : lim ≤ 65536) {b : Nat} {l : List Nat} (hW : WB w b l) (hl : Cl l) (hb : ¬ X b) :
    Calls Tryz.prog 100 #[.pointer (some ⟨ab, 0, none⟩), .slice (some ⟨b, 0, none⟩) 3072 3072] w (MadeN (classN l) X w ab nb lim A) := by
  have hw : Words X w (.slice (some ⟨b, 0, none⟩) 3072 3072) l := by
    have := hW.words (X := X) hb (by rw [hl.1]; decide)
    rw [hl.1] at this
    exact this
  have HS := hideIt hS
  have Hw := hideIt hw
  have Hl := hideIt hl
  have Hok : Hid (NdOk A A.length ⟨3, l, [], 0, 0⟩) := by
    refine ⟨by simp, by simp, by simp, by simp, by simp, fun _ => hl, by simp, by simp, by simp, by simp, by simp, ⟨by simp, by simp, by simp, by simp, by simp, by simp⟩⟩
  clear hS hW hl hw
  by_cases hc : cnt l = 0
  · go_enter Tryz.func100, Tryz.ntmps100
    go_wp2_with (go_at_call 71; refine (count_walk Hw.out (Nat.le_of_eq Hl.out.1) Hl.out.2).mono ?_; rintro e w1 ⟨rfl, hw1⟩; obtain rfl := hw1.symm; rw [hc])
    go_ret2
    rw [show classN l = .id 0 from if_pos hc]
    exact MadeN.id HS.out (Below.refl _ _) HS.out.ar.wf.v0
  · obtain ⟨cn, ecn⟩ : ∃ cn, cn = cnt l := ⟨_, rfl⟩
    rw [← ecn] at hc
    have hc' : ((cn : Int) == 0) = false := by rw [beq_eq_false_iff_ne]; omega
    go_enter Tryz.func100, Tryz.ntmps100
    go_wp2_with (first
      | (go_at_call 71; refine (count_walk Hw.out (Nat.le_of_eq Hl.out.1) Hl.out.2).mono ?_; rintro e w1 ⟨rfl, hw1⟩; obtain rfl := hw1.symm; rw [← ecn])
      | (go_at_call 132; refine (intern_walkN HS.out ⟨3, l, [], 0, 0⟩ Hok.out (Seq.nil X _) Hw.out hlim).mono ?_; rintro e w2 ⟨X', nb', A', z, ev, hG, rfl, hh⟩))
    go_ret2
    rw [show classN l = .nd ⟨3, l, [], 0, 0⟩ from if_neg (by rw [← ecn]; exact hc)]
    exact ⟨X', nb', A', z, ev, hG, rfl, hh⟩
end Go.Proofs.Qxb6500848aGreatDoor
