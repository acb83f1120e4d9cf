/-
  derivCompound at a concatenation.
-/
import Derived.Test.Qxb6500848aGreatDoorComp7
namespace Go.Proofs.Qxb6500848aGreatDoor
open Go.RowKit Pl Go.Maps
set_option maxRecDepth 100000

set_option maxHeartbeats 4000000 in
theorem comp4 {c x : Int} {nd : Nd} {sv kv : Value} {X : Nat → Prop} {w : World} {eb mb ab nb : Nat} {lim : Int} {A : List Nd} (ih : IHD c x eb mb ab lim) (hE : En X w eb mb ab nb lim A) (hlim : lim ≤ 65536) (hx : Valid A x) (hnode : nodeAt A x = nd) (hk : Ints X w kv nd.kids) (h4 : nd.kind = 4) :
    Calls Tryz.prog 116 #[.pointer (some ⟨eb, 0, none⟩), .int .i64 x, .agg #[.int .i64 nd.kind, sv, kv, .int .i64 nd.lo, .int .i64 nd.hi], .int .i64 c] w (DPost c x X w eb mb ab nb lim A) := by
  have hok := hE.st.ar.wf.at hx
  rw [hnode] at hok
  obtain ⟨y, y2, ey⟩ := hok.two h4
  have C0 := CS.start (sv := sv) hE hx hnode hk
  have ek : kid nd 0 = y := by simp [kid, ey]
  have ek2 : kid nd 1 = y2 := by simp [kid, ey]
  have hl : nd.kids.length = 2 := by rw [ey]; rfl
  obtain ⟨ka, kc, rfl, k1, k2, k3⟩ := hk
  obtain ⟨g, o, rfl, hxg, hc⟩ := k3 (by rw [ey]; simp)
  obtain ⟨q0, q1, q2⟩ := C0.kid (j := 0) (by omega)
  obtain ⟨qq0, qq1, qq2⟩ := C0.kid (j := 1) (by omega)
  have eg : nd.kids[0]'(by omega) = y := by simp [ey]
  have eg2 : nd.kids[1]'(by omega) = y2 := by simp [ey]
  rw [eg] at q0 q1 q2
  rw [eg2] at qq0 qq1 qq2
  simp only [Nat.add_zero] at q0
  obtain ⟨f0, f1, f2, f3, f4, f5⟩ := C0.facts
  have HC0 := hideIt C0
  have Hq1 := hideIt q1
  have Hq2 := hideIt q2
  have Hqq1 := hideIt qq1
  have Hqq2 := hideIt qq2
  have HIH := hideIt ih
  have Hek := hideIt ek
  have Hek2 := hideIt ek2
  have H4 := hideIt h4
  have b4 : (nd.kind == 4) = true := by rw [h4]; rfl
  clear ih hE hx hnode hok k3 hc C0 q1 q2 qq1 qq2 ek ek2 ey eg eg2 h4
  rw [hl] at *
  go_enter Tryz.func116, Tryz.ntmps116
  go_wp2_with fail
  go_region
  go_wp2_with fail
  go_at_call 75
  have HC0' := hideIt (HC0.out.below (below_d _) (Nat.le_refl _))
  refine (HIH.out y Hq2.out X _ nb A HC0'.out.en Hq1.out).mono ?_
  rintro e w1 ⟨X1, nb1, A1, z1, ev1, hg1, rfl, hh1⟩
  have C1 := HC0'.out.step hg1
  obtain ⟨p0, p1, p2, p3, p4, p5⟩ := C1.facts
  have HC1 := hideIt C1
  have HG1 := hideIt (GrE.after (alloc_below _) (Nat.le_refl _) (GrE.after (below_d _) (Nat.le_refl _) hg1))
  clear C1 hg1
  rcases hh1 with ⟨rfl, hd1⟩ | ⟨⟨t1, v1, rfl⟩, rfl, hf1⟩
  · have Hd1 := hideIt hd1
    have Hz1 := hideIt (hd1.valid HC1.out.en.st.ar.wf (HG1.out.le.valid Hq1.out))
    clear hd1
    go_wp2_with fail
    go_at_call 102
    refine (concat_walk HC1.out.en.st hlim Hz1.out (HG1.out.le.valid Hqq1.out)).mono ?_
    rintro e w2 ⟨X2, nb2, A2, z2, ev2, hG2, rfl, hh2⟩
    have g2 := HC1.out.en.grow hG2
    have C2 := HC1.out.step g2
    obtain ⟨r0, r1, r2, r3, r4, r5⟩ := C2.facts
    have HC2 := hideIt C2
    have HG2 := hideIt g2
    clear C2 g2 hG2
    rcases hh2 with ⟨rfl, hv2⟩ | ⟨⟨t2, v2, rfl⟩, rfl, hf2⟩
    · have Hv2 := hideIt hv2
      clear hv2
      go_wp2_with fail
      go_at_call 86
      refine (nullable_walk HC2.out.en.st ((HG1.out.le.trans HG2.out.le).valid Hq1.out)).mono ?_
      rintro e w3 ⟨nl, rfl, hnl, hb3⟩
      have C3 := HC2.out.below hb3 (Nat.le_refl _)
      obtain ⟨u0, _, _, _, _, _⟩ := C3.facts
      have HC3 := hideIt C3
      have HB3 := hideIt hb3
      have Hnl := hideIt hnl
      have Hd2 : Hid (Der A2 c y z1) := Hd1.out.le HC1.out.en.st.ar.wf HC2.out.en.st.ar.wf HG2.out.le (HG1.out.le.valid Hq1.out)
      clear C3 hb3 hnl
      cases nl with
      | false =>
        go_wp2_with fail
        go_ret2
        refine ⟨X2, nb2, A2, z2, _, (HG1.out.trans HG2.out).below HB3.out (Nat.le_refl _), rfl, Or.inl ⟨rfl, ?_⟩⟩
        exact Der.cat1 (d := z1) (by rw [HC2.out.node]; exact H4.out) (by rw [HC2.out.node, Hek.out]; exact Hd2.out) (by rw [HC2.out.node, Hek.out]; intro h; have := Hnl.out.2 h; cases this) (by rw [HC2.out.node, Hek2.out]; exact Hv2.out)
      | true =>
        go_wp2_with fail
        go_at_call 75
        refine (HIH.out y2 Hqq2.out X2 _ nb2 A2 HC3.out.en ((HG1.out.le.trans HG2.out.le).valid Hqq1.out)).mono ?_
        rintro e w4 ⟨X4, nb4, A4, z4, ev4, hg4, rfl, hh4⟩
        have C4 := HC3.out.step hg4
        obtain ⟨s0, _, _, _, _, _⟩ := C4.facts
        have HC4 := hideIt C4
        have HG4 := hideIt ((HG1.out.trans HG2.out).trans (GrE.after HB3.out (Nat.le_refl _) hg4))
        have HL4 := hideIt hg4.le
        clear C4 hg4
        rcases hh4 with ⟨rfl, hd4⟩ | ⟨⟨t4, v4, rfl⟩, rfl, hf4⟩
        · have Hz4 := hideIt (hd4.valid HC4.out.en.st.ar.wf ((HG1.out.le.trans (HG2.out.le.trans HL4.out)).valid Hqq1.out))
          have Hd4 := hideIt hd4
          clear hd4
          have HVL : Hid (∀ v ∈ [z2, z4], Valid A4 v) := fun v hv => by
            rcases List.mem_cons.1 hv with rfl | hv
            · exact HL4.out.valid Hv2.out.valid
            · rw [List.mem_singleton.1 hv]; exact Hz4.out
          go_wp2_with (go_at_call 103; refine (union_walk (HC4.out.en.st.below (alloc_below _) (Nat.le_refl _)) hlim (ints_new (t := 28) HC4.out.en.st.xlt [z2, z4] (by simp [maxLen])) HVL.out (by simp)).mono ?_; rintro e w5 ⟨X5, nb5, A5, z5, ev5, hG5, rfl, hh5⟩)
          go_ret2
          have g5 := (HC4.out.en.below (alloc_below _) (Nat.le_refl _)).grow hG5
          have C5 := (HC4.out.below (alloc_below _) (Nat.le_refl _)).step g5
          refine ⟨X5, nb5, A5, z5, ev5, HG4.out.trans (GrE.after (alloc_below _) (Nat.le_refl _) g5), rfl, hh5.imp (fun h => ⟨h.1, ?_⟩) id⟩
          have wf2 := HC2.out.en.st.ar.wf
          have wf5 := C5.en.st.ar.wf
          have l25 := HL4.out.trans g5.le
          have l12 := HG1.out.le.trans HG2.out.le
          exact Der.cat2 (d := z1) (f := z2) (e := z4) (by rw [C5.node]; exact H4.out) (by rw [C5.node, Hek.out]; exact Hd2.out.le wf2 wf5 l25 (l12.valid Hq1.out)) (by rw [C5.node, Hek.out, l25.lang wf2 wf5 (l12.valid Hq1.out)]; exact Hnl.out.1 (by trivial)) (by rw [C5.node, Hek2.out]; exact Hv2.out.le l25)
            (by rw [C5.node, Hek2.out]; exact Hd4.out.le HC4.out.en.st.ar.wf wf5 g5.le ((l12.trans HL4.out).valid Hqq1.out)) (by rw [unionN_le g5.le HVL.out]; exact h.2)
        · go_wp2_with fail
          go_ret2
          exact ⟨X4, nb4, A4, 0, _, HG4.out, rfl, Or.inr ⟨⟨t4, v4, rfl⟩, rfl, hf4⟩⟩
    · go_wp2_with fail
      go_ret2
      exact ⟨X2, nb2, A2, 0, _, HG1.out.trans HG2.out, rfl, Or.inr ⟨⟨t2, v2, rfl⟩, rfl, hf2⟩⟩
  · go_wp2_with fail
    go_ret2
    exact ⟨X1, nb1, A1, 0, _, HG1.out, rfl, Or.inr ⟨⟨t1, v1, rfl⟩, rfl, hf1⟩⟩
end Go.Proofs.Qxb6500848aGreatDoor
