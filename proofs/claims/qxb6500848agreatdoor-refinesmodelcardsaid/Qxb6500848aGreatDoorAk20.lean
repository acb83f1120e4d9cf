/-
  What ask runs, kind by kind.
-/
import Derived.Test.Qxb6500848aGreatDoorRfD
namespace Go.Proofs.Qxb6500848aGreatDoor
open Go.RowKit Pl Go.Maps
set_option maxRecDepth 100000

set_option maxHeartbeats 8000000 in
theorem ak20 {kb eb mb ab : Nat} {lim : Int} (_hlim : lim ≤ 65536) {regs : List Int} {ad af an : Addr} {D bo bm br bw bp : Nat} {oa ob oc o6 : Int} {o4 o5 : Value} {r : Int} {wv pv : Value} {u p : Word} {X : Nat → Prop} {w : World} {nb : Nat} {A : List Nd}
    (h : AQ kb eb mb ab lim regs ad af an D bo bm br bw bp #[.int .i64 20, .int .i64 oa, .int .i64 ob, .int .i64 oc, o4, o5, .int .i64 o6] r wv pv u p X w nb A) :
    Calls Tryz.prog 130 #[.pointer (some ⟨bo, 0, none⟩), .pointer (some ⟨bm, 0, none⟩), .pointer (some ⟨br, 0, none⟩), .pointer (some ⟨bw, 0, none⟩), .pointer (some ⟨bp, 0, none⟩), .pointer (some ⟨D, 0, none⟩)] w fun e w' => e = .returned (.tuple #[]) ∧ AkPost 20 ob kb eb mb ab lim regs ad af an D bo bm br bw bp #[.int .i64 20, .int .i64 oa, .int .i64 ob, .int .i64 oc, o4, o5, .int .i64 o6] r wv pv u p X w nb A w' := by
  have H0 := hideIt (h.below (below_d w))
  have hlu := h.lu
  have hlp := h.lp
  obtain ⟨cm, cr, cw, cp, ck0, ck1⟩ := h.cells
  have co0 := box_cell h.bo.1 0
  have co2 := box_cell h.bo.1 2
  simp only [List.getElem?_toArray, List.getElem?_cons_zero, List.getElem?_cons_succ] at co0 co2
  have HG0 : Hid (Gz mb ab nb D X w A X w.drew nb A) := Gz.refl.below (below_d w)
  have ndm : bm ≠ D := fun e => h.bm.2 (by rw [e]; exact h.xd)
  have ndr : br ≠ D := fun e => h.br.2 (by rw [e]; exact h.xd)
  have ndw : bw ≠ D := fun e => h.bw.2 (by rw [e]; exact h.xd)
  have ndp : bp ≠ D := fun e => h.bp.2 (by rw [e]; exact h.xd)
  have ndo : bo ≠ D := fun e => h.bo.2 (by rw [e]; exact h.xd)
  have ndk : kb ≠ D := h.sp.dk.symm
  have mdm := ndm.symm
  have mdr := ndr.symm
  have mdw := ndw.symm
  have mdp := ndp.symm
  have mdo := ndo.symm
  have mdk := ndk.symm
  clear h
  go_enter Tryz.func130, Tryz.ntmps130
  go_upto_region 15 with fail
  go_region_with (first
      | (go_at_call 18; refine (Cut_walk H0.out.md.es H0.out.md.gd H0.out.md.lt H0.out.vr).mono ?_; rintro e w2 ⟨tb, P, rfl, hC, hP, hPl, g⟩; have HQ2 := hideIt (H0.out.step g); have HG2 := hideIt (HG0.out.trans (Gz.of g)); have HP := hideIt hP; obtain ⟨⟨bv, rv2, hbk, ⟨vs, hvl, ⟨pa2, pc2, rfl, p1', p2', _⟩, _⟩, _⟩, _⟩ := hC; have t0 := box_cell hbk 0; simp only [List.getElem?_toArray, List.getElem?_cons_zero] at t0; have HVL := hideIt hvl; obtain ⟨q0, q1, q2, q3, q4, ⟨d0, d1, d2, d3, d4⟩, fz⟩ := HQ2.out.rcells; have f0 := fz 0; have f1 := fz 1; have f2 := fz 2; have f3 := fz 3; have f4 := fz 4; clear fz hP g hbk hvl; obtain ⟨cm2, cr2, cw2, cp2, ck02, ck12⟩ := HQ2.out.cells))
  all_goals (try go_wp2_with fail)
  all_goals go_end0
  all_goals exact ⟨rfl, HQ2.out.done HG2.out (.bool false) (.bool false) (.bool false) (.bool true) (.int .i64 (vs.length : Int)) (Or.inr (ask20 ⟨P, HP.out, by rw [HVL.out]; rfl⟩))⟩
end Go.Proofs.Qxb6500848aGreatDoor
