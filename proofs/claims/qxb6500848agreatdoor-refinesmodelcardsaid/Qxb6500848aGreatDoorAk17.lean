/-
  What ask runs, kind by kind.
-/
import Derived.Test.Qxb6500848aGreatDoorRfD
namespace Go.Proofs.Qxb6500848aGreatDoor
open Go.RowKit Pl Go.Maps
set_option maxRecDepth 100000

set_option maxHeartbeats 8000000 in
theorem ak17 {kb eb mb ab : Nat} {lim : Int} (hlim : lim ≤ 65536) {regs : List Int} {ad af an : Addr} {D bo bm br bw bp : Nat} {oa ob oc o6 : Int} {o4 o5 : Value} {r : Int} {wv pv : Value} {u p : Word} {X : Nat → Prop} {w : World} {nb : Nat} {A : List Nd}
    (h : AQ kb eb mb ab lim regs ad af an D bo bm br bw bp #[.int .i64 17, .int .i64 oa, .int .i64 ob, .int .i64 oc, o4, o5, .int .i64 o6] r wv pv u p X w nb A) :
    Calls Tryz.prog 130 #[.pointer (some ⟨bo, 0, none⟩), .pointer (some ⟨bm, 0, none⟩), .pointer (some ⟨br, 0, none⟩), .pointer (some ⟨bw, 0, none⟩), .pointer (some ⟨bp, 0, none⟩), .pointer (some ⟨D, 0, none⟩)] w fun e w' => e = .returned (.tuple #[]) ∧ AkPost 17 ob kb eb mb ab lim regs ad af an D bo bm br bw bp #[.int .i64 17, .int .i64 oa, .int .i64 ob, .int .i64 oc, o4, o5, .int .i64 o6] r wv pv u p X w nb A w' := by
  have H0 := hideIt (h.below (below_d w))
  have hlu := h.lu
  have hlp := h.lp
  obtain ⟨cm, cr, cw, cp, ck0, ck1⟩ := h.cells
  have co0 := box_cell h.bo.1 0
  have co2 := box_cell h.bo.1 2
  simp only [List.getElem?_toArray, List.getElem?_cons_zero, List.getElem?_cons_succ] at co0 co2
  have HG0 : Hid (Gz mb ab nb D X w A X w.drew nb A) := Gz.refl.below (below_d w)
  have ndm : bm ≠ D := fun e => h.bm.2 (by rw [e]; exact h.xd)
  have ndr : br ≠ D := fun e => h.br.2 (by rw [e]; exact h.xd)
  have ndw : bw ≠ D := fun e => h.bw.2 (by rw [e]; exact h.xd)
  have ndp : bp ≠ D := fun e => h.bp.2 (by rw [e]; exact h.xd)
  have ndo : bo ≠ D := fun e => h.bo.2 (by rw [e]; exact h.xd)
  have ndk : kb ≠ D := h.sp.dk.symm
  have mdm := ndm.symm
  have mdr := ndr.symm
  have mdw := ndw.symm
  have mdp := ndp.symm
  have mdo := ndo.symm
  have mdk := ndk.symm
  clear h
  go_enter Tryz.func130, Tryz.ntmps130
  go_upto_region 8 with fail
  go_region_held3 (fun w' => w'.cell? ⟨bm, 0, none⟩ = some (.pointer (some ⟨kb, 0, none⟩)) ∧ w'.cell? ⟨kb, 1, none⟩ = some (.pointer (some ⟨eb, 0, none⟩)) ∧ w'.cell? ⟨br, 0, none⟩ = some (.int .i64 r) ∧ w'.cell? ⟨bw, 0, none⟩ = some wv) (go_keep)
    (first
      | (go_at_call 32; refine (PartialWord_walk hlim H0.out.md.es H0.out.md.gn H0.out.md.xn H0.out.vr H0.out.wu (Nat.le_trans hlu (by decide))).mono ?_; rintro e w2 ⟨X2, nb2, A2, pv2, ev, g, rfl, hh⟩; have HQ2 := hideIt (H0.out.step g); have HG2 := hideIt (HG0.out.trans (Gz.of g)); have HH := hideIt (pw_ask (ob := ob) (p := p) H0.out.md.mc.en.st.ar.wf g.en.st.ar.wf H0.out.vr g.le (HQ2.out.sn) hh); have HEv := hideIt (HH.out.1); clear hh g; obtain ⟨cm2, cr2, cw2, cp2, ck02, ck12⟩ := HQ2.out.cells))
  obtain ⟨ps, hps, hpsl, hpsv, hans⟩ := HH.out.2
  have HPs := hideIt hps
  have HPv := hideIt hpsv
  have HAn := hideIt hans
  clear hps hpsv hans
  go_wp2_with (first
    | (go_at_call 40; refine (some_walk HQ2.out.md.mc.en.st ck02 HPs.out hpsl HPv.out HQ2.out.wp (Nat.le_trans hlp (by decide))).mono ?_; rintro e w3 ⟨b, rfl, hb, hB3⟩; have Hb := hideIt hb; have HQ3 := hideIt (HQ2.out.below hB3); have HG3 := hideIt (HG2.out.below hB3); clear hb hB3)
    | (go_at_call 131; refine (answer_walk HQ3.out.sn b HEv.out).mono ?_; rintro e w4 ⟨g0, g1, g2, g3, gn, rfl, hA, hB⟩; have HA := hideIt hA; have HQ4 := hideIt (HQ3.out.below hB); have HG4 := hideIt (HG3.out.below hB); obtain ⟨cm4, cr4, cw4, cp4, ck04, ck14⟩ := HQ4.out.cells; obtain ⟨q0, q1, q2, q3, q4, ⟨d0, d1, d2, d3, d4⟩, fz⟩ := HQ4.out.rcells; have f0 := fz 0; have f1 := fz 1; have f2 := fz 2; have f3 := fz 3; have f4 := fz 4; clear fz hA hB))
  all_goals (try go_wp2_with fail)
  all_goals go_end0
  all_goals exact ⟨rfl, HQ4.out.done HG4.out (.bool g0) (.bool g1) (.bool g2) (.bool g3) (.int .i64 gn) (HAn.out b Hb.out _ HA.out)⟩
end Go.Proofs.Qxb6500848aGreatDoor
