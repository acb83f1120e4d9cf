/-
  Fit.
-/
import Derived.Test.Qxb6500847aGreatDoorOsRc
import Derived.Laws.Cover1
namespace Go.Proofs.Qxb6500847aGreatDoor.Os
open Go.RowKit FloorA
set_option maxRecDepth 100000
section
variable {A : Nat} {rb sb : Nat → Nat} {s : Av} {tl : Nat → List Int} {ws : Nat → Nat → Nat → Int} {w : World} {L : Nat → List Nat} {n : Nat}
def FiPost (s : Av) (i : Nat) (g : Int) (w : World) (e : Ending) (w' : World) : Prop :=
  (∃ v code, e = .returned (.tuple #[.int .i64 0, v]) ∧ Refu w v w' code ∧ (¬ Live s i g → code = stale i g)) ∨ (Live s i g ∧ (∃ x : Int, e = .returned (.tuple #[.int .i64 x, .nilIface])) ∧ Below w.heap.size w w')
set_option maxHeartbeats 4000000 in
theorem Fit_walk (h : Ms w A rb sb s tl ws) (hI : IV s tl L n) (hK : Kd w) (kl : 1 < w.heap.size) (i : Nat) (g : Int) {t bt : Nat} (ht : t < 256) (hbt : bt < 256) :
    Calls Tryz.prog 52 #[.pointer (some ⟨A, 0, none⟩), .agg #[.int .u16 (i : Int), .int .u32 g], .int .u8 (t : Int), .int .u8 (bt : Int)] w (FiPost s i g w) := by
  have bB := alloc_below (w := w) (.cells #[.int .u16 (i : Int), .int .u32 g] 32)
  have HM := hideIt (h.below bB)
  have HB := hideIt bB
  have HI := hideIt hI
  have HK0 := hideIt (hK.below bB kl)
  have l1 : (w.alloc (.cells #[.int .u16 (i : Int), .int .u32 g] 32)).heap.size = w.heap.size + 1 := Deep.nblk_alloc _ _
  have HP := hideIt (fun c => place_walk HM.out hI HK0.out (by omega) i g ht hbt c)
  clear h hI bB hK
  go_enter Tryz.func52, Tryz.ntmps52
  go_wp2_with fail
  go_at_call 130
  refine (HP.out _).mono ?_
  rintro e w1 ⟨hb1, hh⟩
  have HB1 := hideIt (Below.thr HB.out hb1)
  have HM1 := hideIt (HM.out.below hb1)
  clear hb1 l1 HP
  rcases hh with ⟨hl, h1, t1, t7, z, st, sp, z0, z1, s0, s1, p0, p1, rfl⟩ | ⟨v, code, rfl, hc, hv, hs⟩
  · have HLv := hideIt hl
    clear hl h1
    have HB2 := hideIt (alloc_below (w := w1) (.cells #[.int .u16 (i : Int), .int .u8 (t : Int), .int .u64 z, .int .u64 st, .int .u64 sp] 267))
    have HM2 := hideIt (HM1.out.below HB2.out)
    obtain ⟨fe, hfe⟩ : ∃ fe : Int, ∀ w2 : World, Am w2 A s → Calls Tryz.prog 131 #[.pointer (some ⟨A, 0, none⟩), .int .u8 (t : Int)] w2 fun e w' => e = .returned (.int .i64 fe) ∧ w' = w2 := ⟨_, fun w2 a => freeEntries_walk a HI.out.ge.wd t⟩
    obtain ⟨rm, htr⟩ : ∃ rm : Int, ∀ w2 : World, Ms w2 A rb sb s tl ws → Calls Tryz.prog 132 #[.pointer (some ⟨A, 0, none⟩), .int .u8 (t : Int)] w2 fun e w' => e = .returned (.int .i64 rm) ∧ w' = w2 := by
      by_cases q : t = 1
      · subst q
        exact ⟨_, fun w2 _ => tableRoom_one A w2⟩
      · exact ⟨_, fun w2 a => tableRoom_walk a (by omega) t7⟩
    have HFE := hideIt hfe
    have HTR := hideIt htr
    clear hfe htr
    by_cases hsp : sp < 32
    · have hsp1 : sp < 9223372036854775808 := by omega
      go_wp2_with (first | (go_at_call 131; refine (HFE.out _ HM2.out.am).mono ?_; rintro e w' ⟨rfl, hw'⟩; obtain rfl := hw'.symm) | (go_at_call 132; refine (HTR.out _ HM2.out).mono ?_; rintro e w' ⟨rfl, hw'⟩; obtain rfl := hw'.symm))
      all_goals first | (refine bodyPost_ret (v := .tuple #[.int .i64 fe, .nilIface]) ?_ rfl (Or.inr ⟨HLv.out, ⟨_, rfl⟩, Below.thr HB1.out HB2.out⟩); simp [results, Tryz.results52]; done) | (refine bodyPost_ret (v := .tuple #[.int .i64 rm, .nilIface]) ?_ rfl (Or.inr ⟨HLv.out, ⟨_, rfl⟩, Below.thr HB1.out HB2.out⟩); simp [results, Tryz.results52]; done) | (refine bodyPost_ret (v := .tuple #[.int .i64 sp, .nilIface]) ?_ rfl (Or.inr ⟨HLv.out, ⟨_, rfl⟩, Below.thr HB1.out HB2.out⟩); simp [results, Tryz.results52]; done) | (refine bodyPost_ret (v := .tuple #[.int .i64 32, .nilIface]) ?_ rfl (Or.inr ⟨HLv.out, ⟨_, rfl⟩, Below.thr HB1.out HB2.out⟩); simp [results, Tryz.results52]; done)
    · have hsp' : ¬ sp < 32 := hsp
      go_wp2_with (first | (go_at_call 131; refine (HFE.out _ HM2.out.am).mono ?_; rintro e w' ⟨rfl, hw'⟩; obtain rfl := hw'.symm) | (go_at_call 132; refine (HTR.out _ HM2.out).mono ?_; rintro e w' ⟨rfl, hw'⟩; obtain rfl := hw'.symm))
      all_goals first | (refine bodyPost_ret (v := .tuple #[.int .i64 fe, .nilIface]) ?_ rfl (Or.inr ⟨HLv.out, ⟨_, rfl⟩, Below.thr HB1.out HB2.out⟩); simp [results, Tryz.results52]; done) | (refine bodyPost_ret (v := .tuple #[.int .i64 rm, .nilIface]) ?_ rfl (Or.inr ⟨HLv.out, ⟨_, rfl⟩, Below.thr HB1.out HB2.out⟩); simp [results, Tryz.results52]; done) | (refine bodyPost_ret (v := .tuple #[.int .i64 sp, .nilIface]) ?_ rfl (Or.inr ⟨HLv.out, ⟨_, rfl⟩, Below.thr HB1.out HB2.out⟩); simp [results, Tryz.results52]; done) | (refine bodyPost_ret (v := .tuple #[.int .i64 32, .nilIface]) ?_ rfl (Or.inr ⟨HLv.out, ⟨_, rfl⟩, Below.thr HB1.out HB2.out⟩); simp [results, Tryz.results52]; done)
  · obtain ⟨b, rfl, hbc⟩ := hv
    have HF : Hid (FiPost s i g w (.returned (.tuple #[.int .i64 0, .iface 212 (.pointer (some ⟨b, 0, none⟩))])) (w1.alloc (.cells #[.int .u16 0, .int .u8 0, .int .u64 0, .int .u64 0, .int .u64 0] 267))) := Or.inl ⟨_, code, rfl, ⟨IsErr.below ⟨b, rfl, hbc⟩ (alloc_below _), hc, Below.thr HB1.out (alloc_below _)⟩, hs⟩
    clear hbc hs hc
    go_wp2_with fail
    exact bodyPost_ret (by simp [results, Tryz.results52]) rfl HF.out
end
end Go.Proofs.Qxb6500847aGreatDoor.Os
