/-
  derivCompound at a star and at a loop.
-/
import Derived.Test.Qxb6500848aGreatDoorComp7
namespace Go.Proofs.Qxb6500848aGreatDoor
open Go.RowKit Pl Go.Maps
set_option maxRecDepth 100000

set_option maxHeartbeats 2000000 in
theorem comp8 {c x : Int} {nd : Nd} {sv kv : Value} {X : Nat → Prop} {w : World} {eb mb ab nb : Nat} {lim : Int} {A : List Nd} (ih : IHD c x eb mb ab lim) (hE : En X w eb mb ab nb lim A) (hlim : lim ≤ 65536) (hx : Valid A x) (hnode : nodeAt A x = nd) (hk : Ints X w kv nd.kids) (h8 : nd.kind = 8) :
    Calls Tryz.prog 116 #[.pointer (some ⟨eb, 0, none⟩), .int .i64 x, .agg #[.int .i64 nd.kind, sv, kv, .int .i64 nd.lo, .int .i64 nd.hi], .int .i64 c] w (DPost c x X w eb mb ab nb lim A) := by
  have hok := hE.st.ar.wf.at hx
  rw [hnode] at hok
  obtain ⟨y, ey⟩ := hok.one (Or.inr (Or.inl h8))
  have C0 := CS.start (sv := sv) hE hx hnode hk
  have ek : kid nd 0 = y := by simp [kid, ey]
  have hl : nd.kids.length = 1 := by rw [ey]; rfl
  obtain ⟨ka, kc, rfl, k1, k2, k3⟩ := hk
  obtain ⟨g, o, rfl, hxg, hc⟩ := k3 (by rw [ey]; simp)
  obtain ⟨q0, q1, q2⟩ := C0.kid (j := 0) (by omega)
  have eg : nd.kids[0]'(by omega) = y := by simp [ey]
  rw [eg] at q0 q1 q2
  simp only [Nat.add_zero] at q0
  obtain ⟨f0, f1, f2, f3, f4, f5⟩ := C0.facts
  have HC0 := hideIt C0
  have Hq1 := hideIt q1
  have Hq2 := hideIt q2
  have HIH := hideIt ih
  have Hek := hideIt ek
  have H8 := hideIt h8
  have b4 : (nd.kind == 4) = false := by rw [h8]; rfl
  have b5 : (nd.kind == 5) = false := by rw [h8]; rfl
  have b6 : (nd.kind == 6) = false := by rw [h8]; rfl
  have b7 : (nd.kind == 7) = false := by rw [h8]; rfl
  have b8 : (nd.kind == 8) = true := by rw [h8]; rfl
  clear ih hE hx hnode hok k3 hc C0 q1 q2 ek ey eg h8
  rw [hl] at *
  go_enter Tryz.func116, Tryz.ntmps116
  go_wp2_with fail
  go_at_call 75
  refine (HIH.out y Hq2.out X _ nb A HC0.out.en Hq1.out).mono ?_
  rintro e w1 ⟨X1, nb1, A1, z1, ev1, hg1, rfl, hh1⟩
  have C1 := HC0.out.step hg1
  obtain ⟨p0, p1, p2, p3, p4, p5⟩ := C1.facts
  have HC1 := hideIt C1
  have HG1 := hideIt hg1
  clear C1 hg1
  rcases hh1 with ⟨rfl, hd1⟩ | ⟨⟨t1, v1, rfl⟩, rfl, hf1⟩
  · by_cases hz : z1 = 0
    · subst hz
      go_wp2_with fail
      go_ret2
      exact ⟨X1, nb1, A1, 0, _, GrE.after (alloc_below _) (Nat.le_refl _) HG1.out, rfl, Or.inl ⟨rfl, Der.dead (Or.inl (by rw [HC1.out.node]; exact H8.out)) (by rw [HC1.out.node, Hek.out]; exact hd1)⟩⟩
    · have bz : (z1 == 0) = false := by simp [hz]
      go_wp2_with fail
      go_at_call 143
      refine (after8 HC1.out.en HC1.out.hx H8.out).mono ?_
      rintro e w2 ⟨X2, nb2, A2, z2, ev2, hG2, rfl, hh2⟩
      have g2 := HC1.out.en.grow hG2
      have C2 := HC1.out.step g2
      obtain ⟨r0, r1, r2, r3, r4, r5⟩ := C2.facts
      have HC2 := hideIt C2
      have HG2 := hideIt g2
      clear C2 g2 hG2
      rcases hh2 with ⟨rfl, hr2⟩ | ⟨⟨t2, v2, rfl⟩, rfl, hf2⟩
      · go_wp2_with (go_at_call 102; refine (concat_walk HC2.out.en.st hlim (HG2.out.le.valid (hd1.valid HC1.out.en.st.ar.wf (HG1.out.le.valid Hq1.out))) hr2.valid).mono ?_; rintro e w3 ⟨X3, nb3, A3, z3, ev3, hG3, rfl, hh3⟩)
        go_ret2
        have g3 := HC2.out.en.grow hG3
        have C3 := HC2.out.step g3
        refine ⟨X3, nb3, A3, z3, ev3, ((GrE.after (alloc_below _) (Nat.le_refl _) HG1.out).trans HG2.out).trans g3, rfl, hh3.imp (fun h => ⟨h.1, ?_⟩) id⟩
        have hvy := HG1.out.le.valid Hq1.out
        obtain ⟨rfl, hv2⟩ := hr2
        exact Der.star (d := z1) (by rw [C3.node]; exact H8.out) (by rw [C3.node, Hek.out]; exact hd1.le HC1.out.en.st.ar.wf C3.en.st.ar.wf (HG2.out.le.trans g3.le) hvy) hz h.2
      · go_wp2_with fail
        go_ret2
        exact ⟨X2, nb2, A2, 0, _, (GrE.after (alloc_below _) (Nat.le_refl _) HG1.out).trans HG2.out, rfl, Or.inr ⟨⟨t2, v2, rfl⟩, rfl, hf2⟩⟩
  · go_wp2_with fail
    go_ret2
    exact ⟨X1, nb1, A1, 0, _, GrE.after (alloc_below _) (Nat.le_refl _) HG1.out, rfl, Or.inr ⟨⟨t1, v1, rfl⟩, rfl, hf1⟩⟩

set_option maxHeartbeats 2000000 in
theorem comp9 {c x : Int} {nd : Nd} {sv kv : Value} {X : Nat → Prop} {w : World} {eb mb ab nb : Nat} {lim : Int} {A : List Nd} (ih : IHD c x eb mb ab lim) (hE : En X w eb mb ab nb lim A) (hlim : lim ≤ 65536) (hx : Valid A x) (hnode : nodeAt A x = nd) (hk : Ints X w kv nd.kids) (h9 : nd.kind = 9) :
    Calls Tryz.prog 116 #[.pointer (some ⟨eb, 0, none⟩), .int .i64 x, .agg #[.int .i64 nd.kind, sv, kv, .int .i64 nd.lo, .int .i64 nd.hi], .int .i64 c] w (DPost c x X w eb mb ab nb lim A) := by
  have hok := hE.st.ar.wf.at hx
  rw [hnode] at hok
  obtain ⟨y, ey⟩ := hok.one (Or.inr (Or.inr h9))
  have C0 := CS.start (sv := sv) hE hx hnode hk
  have ek : kid nd 0 = y := by simp [kid, ey]
  have hl : nd.kids.length = 1 := by rw [ey]; rfl
  obtain ⟨ka, kc, rfl, k1, k2, k3⟩ := hk
  obtain ⟨g, o, rfl, hxg, hc⟩ := k3 (by rw [ey]; simp)
  obtain ⟨q0, q1, q2⟩ := C0.kid (j := 0) (by omega)
  have eg : nd.kids[0]'(by omega) = y := by simp [ey]
  rw [eg] at q0 q1 q2
  simp only [Nat.add_zero] at q0
  obtain ⟨f0, f1, f2, f3, f4, f5⟩ := C0.facts
  have HC0 := hideIt C0
  have Hq1 := hideIt q1
  have Hq2 := hideIt q2
  have HIH := hideIt ih
  have Hek := hideIt ek
  have H9 := hideIt h9
  have b4 : (nd.kind == 4) = false := by rw [h9]; rfl
  have b5 : (nd.kind == 5) = false := by rw [h9]; rfl
  have b6 : (nd.kind == 6) = false := by rw [h9]; rfl
  have b7 : (nd.kind == 7) = false := by rw [h9]; rfl
  have b8 : (nd.kind == 8) = false := by rw [h9]; rfl
  have b9 : (nd.kind == 9) = true := by rw [h9]; rfl
  clear ih hE hx hnode hok k3 hc C0 q1 q2 ek ey eg h9
  rw [hl] at *
  go_enter Tryz.func116, Tryz.ntmps116
  go_wp2_with fail
  go_at_call 75
  refine (HIH.out y Hq2.out X _ nb A HC0.out.en Hq1.out).mono ?_
  rintro e w1 ⟨X1, nb1, A1, z1, ev1, hg1, rfl, hh1⟩
  have C1 := HC0.out.step hg1
  obtain ⟨p0, p1, p2, p3, p4, p5⟩ := C1.facts
  have HC1 := hideIt C1
  have HG1 := hideIt hg1
  clear C1 hg1
  rcases hh1 with ⟨rfl, hd1⟩ | ⟨⟨t1, v1, rfl⟩, rfl, hf1⟩
  · by_cases hz : z1 = 0
    · subst hz
      go_wp2_with fail
      go_ret2
      exact ⟨X1, nb1, A1, 0, _, GrE.after (alloc_below _) (Nat.le_refl _) HG1.out, rfl, Or.inl ⟨rfl, Der.dead (Or.inr (by rw [HC1.out.node]; exact H9.out)) (by rw [HC1.out.node, Hek.out]; exact hd1)⟩⟩
    · have bz : (z1 == 0) = false := by simp [hz]
      go_wp2_with fail
      go_at_call 143
      refine (after9 HC1.out.en hlim HC1.out.hx HC1.out.node HC1.out.kids H9.out).mono ?_
      rintro e w2 ⟨X2, nb2, A2, z2, ev2, hG2, rfl, hh2⟩
      have g2 := HC1.out.en.grow hG2
      have C2 := HC1.out.step g2
      obtain ⟨r0, r1, r2, r3, r4, r5⟩ := C2.facts
      have HC2 := hideIt C2
      have HG2 := hideIt g2
      clear C2 g2 hG2
      rcases hh2 with ⟨rfl, hr2⟩ | ⟨⟨t2, v2, rfl⟩, rfl, hf2⟩
      · go_wp2_with (go_at_call 102; refine (concat_walk HC2.out.en.st hlim (HG2.out.le.valid (hd1.valid HC1.out.en.st.ar.wf (HG1.out.le.valid Hq1.out))) hr2.valid).mono ?_; rintro e w3 ⟨X3, nb3, A3, z3, ev3, hG3, rfl, hh3⟩)
        go_ret2
        have g3 := HC2.out.en.grow hG3
        have C3 := HC2.out.step g3
        refine ⟨X3, nb3, A3, z3, ev3, ((GrE.after (alloc_below _) (Nat.le_refl _) HG1.out).trans HG2.out).trans g3, rfl, hh3.imp (fun h => ⟨h.1, ?_⟩) id⟩
        have hvy := HG1.out.le.valid Hq1.out
        have e1 := loopN_le (lo := max (nd.lo - 1) 0) (hi := if nd.hi = -1 then -1 else nd.hi - 1) (HG2.out.le.trans g3.le) hvy
        exact Der.loop (d := z1) (r := z2) (by rw [C3.node]; exact H9.out) (by rw [C3.node, Hek.out]; exact hd1.le HC1.out.en.st.ar.wf C3.en.st.ar.wf (HG2.out.le.trans g3.le) hvy) hz (by rw [C3.node, Hek.out, e1, ← Hek.out]; exact hr2.le g3.le) h.2
      · go_wp2_with fail
        go_ret2
        exact ⟨X2, nb2, A2, 0, _, (GrE.after (alloc_below _) (Nat.le_refl _) HG1.out).trans HG2.out, rfl, Or.inr ⟨⟨t2, v2, rfl⟩, rfl, hf2⟩⟩
  · go_wp2_with fail
    go_ret2
    exact ⟨X1, nb1, A1, 0, _, GrE.after (alloc_below _) (Nat.le_refl _) HG1.out, rfl, Or.inr ⟨⟨t1, v1, rfl⟩, rfl, hf1⟩⟩

end Go.Proofs.Qxb6500848aGreatDoor
