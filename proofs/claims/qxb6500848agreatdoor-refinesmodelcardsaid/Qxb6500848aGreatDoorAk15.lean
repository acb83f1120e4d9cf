/-
  What ask runs, kind by kind.
-/
import Derived.Test.Qxb6500848aGreatDoorRfD
namespace Go.Proofs.Qxb6500848aGreatDoor
open Go.RowKit Pl Go.Maps
set_option maxRecDepth 100000

set_option maxHeartbeats 8000000 in
theorem ak15 {kb eb mb ab : Nat} {lim : Int} (hlim : lim ≤ 65536) {regs : List Int} {ad af an : Addr} {D bo bm br bw bp : Nat} {oa ob oc o6 : Int} {o4 o5 : Value} {r : Int} {wv pv : Value} {u p : Word} {X : Nat → Prop} {w : World} {nb : Nat} {A : List Nd}
    (h : AQ kb eb mb ab lim regs ad af an D bo bm br bw bp #[.int .i64 15, .int .i64 oa, .int .i64 ob, .int .i64 oc, o4, o5, .int .i64 o6] r wv pv u p X w nb A) :
    Calls Tryz.prog 130 #[.pointer (some ⟨bo, 0, none⟩), .pointer (some ⟨bm, 0, none⟩), .pointer (some ⟨br, 0, none⟩), .pointer (some ⟨bw, 0, none⟩), .pointer (some ⟨bp, 0, none⟩), .pointer (some ⟨D, 0, none⟩)] w fun e w' => e = .returned (.tuple #[]) ∧ AkPost 15 ob kb eb mb ab lim regs ad af an D bo bm br bw bp #[.int .i64 15, .int .i64 oa, .int .i64 ob, .int .i64 oc, o4, o5, .int .i64 o6] r wv pv u p X w nb A w' := by
  have H0 := hideIt (h.below (below_d w))
  have hlu := h.lu
  have hlp := h.lp
  obtain ⟨cm, cr, cw, cp, ck0, ck1⟩ := h.cells
  have co0 := box_cell h.bo.1 0
  have co2 := box_cell h.bo.1 2
  simp only [List.getElem?_toArray, List.getElem?_cons_zero, List.getElem?_cons_succ] at co0 co2
  have HG0 : Hid (Gz mb ab nb D X w A X w.drew nb A) := Gz.refl.below (below_d w)
  have ndm : bm ≠ D := fun e => h.bm.2 (by rw [e]; exact h.xd)
  have ndr : br ≠ D := fun e => h.br.2 (by rw [e]; exact h.xd)
  have ndw : bw ≠ D := fun e => h.bw.2 (by rw [e]; exact h.xd)
  have ndp : bp ≠ D := fun e => h.bp.2 (by rw [e]; exact h.xd)
  have ndo : bo ≠ D := fun e => h.bo.2 (by rw [e]; exact h.xd)
  have ndk : kb ≠ D := h.sp.dk.symm
  have mdm := ndm.symm
  have mdr := ndr.symm
  have mdw := ndw.symm
  have mdp := ndp.symm
  have mdo := ndo.symm
  have mdk := ndk.symm
  clear h
  go_enter Tryz.func130, Tryz.ntmps130
  go_upto_region 2 with fail
  go_region_held3 (fun w' => w'.cell? ⟨bm, 0, none⟩ = some (.pointer (some ⟨kb, 0, none⟩)) ∧ w'.cell? ⟨kb, 1, none⟩ = some (.pointer (some ⟨eb, 0, none⟩)) ∧ w'.cell? ⟨br, 0, none⟩ = some (.int .i64 r) ∧ w'.cell? ⟨bw, 0, none⟩ = some wv) (go_keep)
    (first
      | (go_at_call 14; refine (DerivWord_walk hlim H0.out.md.mc.en H0.out.vr H0.out.wu (Nat.le_trans hlu (by decide))).mono ?_; rintro e w2 ⟨X2, nb2, A2, z, ev, g, rfl, hh⟩; have HQ2 := hideIt (H0.out.step (g.toX H0.out.md.es)); have HG2 := hideIt (HG0.out.trans (Gz.of (g.toX H0.out.md.es))); have HH := hideIt (dw_ask (ob := ob) (p := p) (HQ2.out.sn) hh); clear hh g; obtain ⟨cm2, cr2, cw2, cp2, ck02, ck12⟩ := HQ2.out.cells))
  rcases HH.out with ⟨rfl, hz, hq⟩ | ⟨rfl, rfl⟩
  · have HZ := hideIt hz
    have HQt := hideIt hq
    clear hz hq
    go_upto_region 3 with fail
    go_region_held3 (fun w' => w'.cell? ⟨bm, 0, none⟩ = some (.pointer (some ⟨kb, 0, none⟩)) ∧ w'.cell? ⟨kb, 0, none⟩ = some (.pointer (some ⟨ab, 0, none⟩)) ∧ w'.cell? ⟨bp, 0, none⟩ = some pv) (go_keep)
      (first
        | (go_at_call 41; refine (has_walk (HQ2.out.below (below_d _)).md.mc.en.st (HQ2.out.below (below_d _)).wp (Nat.le_trans hlp (by decide)) HZ.out).mono ?_; rintro e w3 ⟨b, rfl, hb, hB3⟩; have Hb := hideIt hb; have HQ3 := hideIt ((HQ2.out.below (below_d _)).below hB3); have HG3 := hideIt ((HG2.out.below (below_d _)).below hB3); clear hb hB3; obtain ⟨cm3, cr3, cw3, cp3, ck03, ck13⟩ := HQ3.out.cells)
        | (go_at_call 131; refine (answer_walk HQ3.out.sn b (Or.inl rfl)).mono ?_; rintro e w4 ⟨g0, g1, g2, g3, gn, rfl, hA, hB⟩; have HA := hideIt hA; have HQ4 := hideIt (HQ3.out.below hB); have HG4 := hideIt (HG3.out.below hB); obtain ⟨cm4, cr4, cw4, cp4, ck04, ck14⟩ := HQ4.out.cells; obtain ⟨q0, q1, q2, q3, q4, ⟨d0, d1, d2, d3, d4⟩, fz⟩ := HQ4.out.rcells; have f0 := fz 0; have f1 := fz 1; have f2 := fz 2; have f3 := fz 3; have f4 := fz 4; clear fz hA hB))
    all_goals (try go_wp2_with fail)
    all_goals go_end0
    all_goals exact ⟨rfl, HQ4.out.done HG4.out (.bool g0) (.bool g1) (.bool g2) (.bool g3) (.int .i64 gn) (HQt.out b Hb.out _ HA.out)⟩
  · have HQ3 := hideIt (HQ2.out.below (below_d _))
    have HG3 := hideIt (HG2.out.below (below_d _))
    go_upto_region 3 with fail
    refine wp_region_noPanic ?_
    refine wp_region_any (by kernel_rfl) ?_
    change wpAny _ _ _ _ _ _ _ (World.drew _)
    refine any_do (i := 0) (d := some 26) (v := (.iface 216 (.pointer (some af)))) rfl (by kernel_rfl) (by kernel_rfl) (by kernel_rfl) (fun _ _ _ h => h) (by intro w; go_simp) ?_
    try simp only [Act.put, List.setIfInBounds_toArray, List.set_cons_zero, List.set_cons_succ]
    refine any_do (i := 1) (d := some 27) (v := (.bool false)) rfl (by kernel_rfl) (by kernel_rfl) (by kernel_rfl) (fun _ _ _ h => h) (by intro w; go_simp) ?_
    try simp only [Act.put, List.setIfInBounds_toArray, List.set_cons_zero, List.set_cons_succ]
    refine any_do (i := 2) (d := some 28) (v := (.bool false)) rfl (by kernel_rfl) (by kernel_rfl) (by kernel_rfl) (fun _ _ _ h => h) (by intro w; go_simp) ?_
    try simp only [Act.put, List.setIfInBounds_toArray, List.set_cons_zero, List.set_cons_succ]
    refine any_skip (i := 3) (d := some 29) rfl (by kernel_rfl) (by kernel_rfl) (by kernel_rfl) (fun _ _ _ h => h) ?_
    try simp only [Act.put, List.setIfInBounds_toArray, List.set_cons_zero, List.set_cons_succ]
    refine any_skip (i := 4) (d := some 30) rfl (by kernel_rfl) (by kernel_rfl) (by kernel_rfl) (fun _ _ _ h => h) ?_
    try simp only [Act.put, List.setIfInBounds_toArray, List.set_cons_zero, List.set_cons_succ]
    refine any_skip (i := 5) (d := some 31) rfl (by kernel_rfl) (by kernel_rfl) (by kernel_rfl) (fun _ _ _ h => h) ?_
    try simp only [Act.put, List.setIfInBounds_toArray, List.set_cons_zero, List.set_cons_succ]
    refine any_skip (i := 6) (d := some 32) rfl (by kernel_rfl) (by kernel_rfl) (by kernel_rfl) (fun _ _ _ h => h) ?_
    try simp only [Act.put, List.setIfInBounds_toArray, List.set_cons_zero, List.set_cons_succ]
    refine any_skip (i := 7) (d := some 33) rfl (by kernel_rfl) (by kernel_rfl) (by kernel_rfl) (fun _ _ _ h => h) ?_
    try simp only [Act.put, List.setIfInBounds_toArray, List.set_cons_zero, List.set_cons_succ]
    refine any_skip (i := 8) (d := some 34) rfl (by kernel_rfl) (by kernel_rfl) (by kernel_rfl) (fun _ _ _ h => h) ?_
    try simp only [Act.put, List.setIfInBounds_toArray, List.set_cons_zero, List.set_cons_succ]
    refine any_skip (i := 9) (d := some 35) rfl (by kernel_rfl) (by kernel_rfl) (by kernel_rfl) (fun _ _ _ h => h) ?_
    try simp only [Act.put, List.setIfInBounds_toArray, List.set_cons_zero, List.set_cons_succ]
    refine any_do (i := 10) (d := some 36) (v := (.bool false)) rfl (by kernel_rfl) (by kernel_rfl) (by kernel_rfl) (fun _ _ _ h => h) (by intro w; go_simp) ?_
    try simp only [Act.put, List.setIfInBounds_toArray, List.set_cons_zero, List.set_cons_succ]
    refine any_do (i := 11) (d := some 37) (v := (.iface 216 (.pointer (some af)))) rfl (by kernel_rfl) (by kernel_rfl) (by kernel_rfl) (fun _ _ _ h => h) (by intro w; go_simp) ?_
    try simp only [Act.put, List.setIfInBounds_toArray, List.set_cons_zero, List.set_cons_succ]
    refine wpAny_ready (rs := [12]) (by kernel_rfl) (by simp) ?_
    refine AllReady.cons rfl (fun K hK => ?_) AllReady.nil
    go_simp
    go_wp2_with (go_at_call 131; refine (answer_walk HQ3.out.sn false (Or.inr (Or.inl rfl))).mono ?_; rintro e w4 ⟨g0, g1, g2, g3, gn, rfl, hA, hB⟩; have HA := hideIt hA; have HQ4 := hideIt (HQ3.out.below hB); have HG4 := hideIt (HG3.out.below hB); obtain ⟨cm4, cr4, cw4, cp4, ck04, ck14⟩ := HQ4.out.cells; obtain ⟨q0, q1, q2, q3, q4, ⟨d0, d1, d2, d3, d4⟩, fz⟩ := HQ4.out.rcells; have f0 := fz 0; have f1 := fz 1; have f2 := fz 2; have f3 := fz 3; have f4 := fz 4; clear fz hA hB)
    refine wpAny_ready (rs := [13]) (by kernel_rfl) (by simp) ?_
    refine AllReady.cons rfl (fun K hK => ?_) AllReady.nil
    go_simp
    refine hK _ _ ?_
    clear hK K
    refine wpAny_done (by kernel_rfl) ?_ _
    refine NoPanic.normal ?_
    all_goals (try go_wp2_with fail)
    all_goals go_end0
    all_goals exact ⟨rfl, HQ4.out.done HG4.out (.bool g0) (.bool g1) (.bool g2) (.bool g3) (.int .i64 gn) (Or.inl (anR_full HQ3.out.sn.ne HA.out))⟩
end Go.Proofs.Qxb6500848aGreatDoor
