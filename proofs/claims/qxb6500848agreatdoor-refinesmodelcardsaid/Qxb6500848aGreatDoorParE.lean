/-
  partialCompound at a star and at a loop.
-/
import Derived.Test.Qxb6500848aGreatDoorParD
import Derived.Test.Qxb6500848aGreatDoorAfter
namespace Go.Proofs.Qxb6500848aGreatDoor
open Go.RowKit Pl Go.Maps
set_option maxRecDepth 100000

theorem setOf_nil : Pl.setOf [] = [] := by simp [Pl.setOf, srt, Lib.compact, Lib.compactUpTo]

set_option maxHeartbeats 8000000 in
theorem pcomp8 {c x : Int} {nd : Nd} {sv kv : Value} {X : Nat → Prop} {w : World} {eb mb ab nb : Nat} {lim : Int} {A : List Nd} (ih : IHP c x eb mb ab lim) (hE : Es X w eb mb ab nb lim A) (hlim : lim ≤ 65536) (hx : Valid A x) (hnode : nodeAt A x = nd) (hk : Ints X w kv nd.kids) (hp : PlainR A x) (h8 : nd.kind = 8) :
    Calls Tryz.prog 117 #[.pointer (some ⟨eb, 0, none⟩), .int .i64 x, .agg #[.int .i64 nd.kind, sv, kv, .int .i64 nd.lo, .int .i64 nd.hi], .int .i64 c] w (PcPost c x X w eb mb ab nb lim A) := by
  have hok := hE.en.st.ar.wf.at hx
  rw [hnode] at hok
  obtain ⟨y, ey⟩ := hok.one (Or.inr (Or.inl h8))
  have C0 := PcS.start (sv := sv) hE hx hnode hk hp
  have ek : Pl.kid nd 0 = y := by simp [Pl.kid, ey]
  have hl : nd.kids.length = 1 := by rw [ey]; rfl
  obtain ⟨ka, kc, rfl, k1, k2, k3⟩ := hk
  obtain ⟨g, o, rfl, hxg, hc⟩ := k3 (by rw [ey]; simp)
  obtain ⟨q0, q1, q2, q3⟩ := C0.kid (j := 0) (by omega)
  have eg : nd.kids[0]'(by omega) = y := by simp [ey]
  rw [eg] at q0 q1 q2 q3
  simp only [Nat.add_zero] at q0
  obtain ⟨f0, f1, f2, f3, f4, f5⟩ := C0.facts
  have HC0 := hideIt C0
  have HIH : Hid (IHP c x eb mb ab lim) := ih
  have Hq := hideIt (And.intro q1 (And.intro q2 q3))
  have Hek := hideIt ek
  have H8 := hideIt h8
  have b4 : (nd.kind == 4) = false := by rw [h8]; rfl
  have b5 : (nd.kind == 5) = false := by rw [h8]; rfl
  have b8 : (nd.kind == 8) = true := by rw [h8]; rfl
  have lm3 : mb + 3 < w.heap.size := by obtain ⟨_, _, m, _⟩ := hE.ax.pn; exact m.lt
  have HG0 := hideIt ((GrX.refl hE).below (alloc_below (.cells #[.int .i64 nd.kind, sv, .slice (some ⟨g, o, none⟩) nd.kids.length kc, .int .i64 nd.lo, .int .i64 nd.hi] 110)))
  clear ih hE hx hnode hok k3 hc C0 q1 q2 q3 ek ey eg h8 hxg hp
  rw [hl] at *
  go_enter Tryz.func117, Tryz.ntmps117
  go_wp2_with fail
  generalize w.alloc (.cells #[.int .i64 nd.kind, sv, .slice (some ⟨g, o, none⟩) 1 kc, .int .i64 nd.lo, .int .i64 nd.hi] 110) = w0 at *
  clear f0 f1 f2 f3 f4 f5 q0
  go_at_call 83
  refine (HIH.out y Hq.out.2.1 X _ nb A HC0.out.es Hq.out.1 Hq.out.2.2).mono ?_
  rintro e w1 ⟨X1, nb1, A1, v1, ev1, hg1, rfl, hh1⟩
  have HG1 := hideIt (HG0.out.trans hg1)
  have HC1 := hideIt (HC0.out.step hg1)
  rcases hh1 with ⟨rfl, l1, hI1, hn1, hp1⟩ | ⟨⟨t1, u1, rfl⟩, rfl, hf1⟩
  · have hl1 : l1.length ≤ 65536 := by
      have h1 := hp1.len hg1.en.st.ar.wf (hg1.le.valid Hq.out.1)
      have h2 := hg1.en.st.ar.len
      omega
    have HI1 := hideIt hI1
    have Hp1 := hideIt hp1
    have Hv1 := hideIt (hp1.valid hg1.en.st.ar.wf (hg1.le.valid Hq.out.1))
    have Hky := hideIt (hg1.le.valid Hq.out.1)
    have Hw1 : Hid (w.heap.size ≤ w1.heap.size) := HG1.out.ext.size
    obtain ⟨a1, c1, rfl, _, _, _⟩ := hI1
    clear hg1 hp1 hn1 HC0 HG0
    by_cases hne : l1 = []
    · subst hne
      have Hpar : Hid (Par A1 c x (Pl.setOf [])) := by rw [setOf_nil]; exact Par.dead (Or.inl (by rw [HC1.out.node]; exact H8.out)) (by rw [HC1.out.node, Hek.out]; exact Hp1.out)
      go_wp2_with fail
      go_ret2
      exact ⟨X1, nb1, A1, _, _, HG1.out, rfl, Or.inl ⟨rfl, [], RX.nil _ _ _ _ _ _, Hpar.out, by simp⟩⟩
    · have Hne := hideIt hne
      have bl : ((l1.length : Int) == 0) = false := by
        rw [beq_eq_false_iff_ne]
        have := List.length_pos_iff.2 hne
        omega
      clear hne
      obtain ⟨e0, e1, e2, e3, e4, e5⟩ := HC1.out.facts
      go_wp2_with fail
      go_at_call 143
      refine ((after8 HC1.out.es.en HC1.out.hx H8.out)).mono ?_
      rintro e w2 ⟨X2, nb2, A2, z2, ev2, hG2, rfl, hh2⟩
      have hg2 := (HC1.out.es.en.grow hG2).toX HC1.out.es
      have HG2 := hideIt (HG1.out.trans hg2)
      have HC2 := hideIt (HC1.out.step hg2)
      have HI2 := hideIt (hg2.seq HC1.out.es HI1.out)
      have Hp2 := hideIt (Hp1.out.le HC1.out.es.en.st.ar.wf hg2.en.st.ar.wf hg2.le Hky.out)
      have Hv2 : Hid (∀ p ∈ l1, Valid A2 p) := fun p hp => hg2.le.valid (Hv1.out p hp)
      have Hw2 : Hid (w.heap.size ≤ w2.heap.size) := HG2.out.ext.size
      clear e0 e1 e2 e3 e4 e5 hG2
      rcases hh2 with ⟨rfl, hv2⟩ | ⟨⟨t2, u2, rfl⟩, rfl, hf2⟩
      · have Hz2 := hideIt hv2.valid
        go_wp2_with fail
        go_at_call 144
        refine (eachThen_walk hlim HC2.out.es HI2.out hl1 Hv2.out Hz2.out).mono ?_
        rintro e w3 ⟨X3, nb3, A3, v3, ev3, hg3, rfl, hh3⟩
        have HG3 := hideIt (HG2.out.trans hg3)
        have HC3 := hideIt (HC2.out.step hg3)
        have Hp3 := hideIt (Hp2.out.le HC2.out.es.en.st.ar.wf hg3.en.st.ar.wf hg3.le (hg2.le.valid Hky.out))
        rcases hh3 with ⟨rfl, qs, hR3, hT3⟩ | ⟨⟨t3, u3, rfl⟩, rfl, hf3⟩
        · have HR3 := hideIt (hR3.base Hw2.out)
          have hql : qs.length ≤ 65536 := by have := hT3.1; omega
          have Hpar : Hid (Par A3 c x (Pl.setOf qs)) := Par.star (by rw [HC3.out.node]; exact H8.out) (by rw [HC3.out.node, Hek.out]; exact Hp3.out) Hne.out (by rw [show z2 = x from hv2.1.symm] at hT3; exact hT3) rfl
          clear hg3 hR3 hT3 hv2 hg2
          go_wp2_with fail
          go_ret2
          exact ⟨X3, nb3, A3, _, _, HG3.out, rfl, Or.inl ⟨rfl, qs, HR3.out, Hpar.out, by omega⟩⟩
        · clear hg3 hv2 hg2
          go_wp2_with fail
          go_ret2
          exact ⟨X3, nb3, A3, _, _, HG3.out, rfl, Or.inr ⟨⟨t3, u3, rfl⟩, hf3⟩⟩
      · clear hg2
        go_wp2_with fail
        go_ret2
        exact ⟨X2, nb2, A2, _, _, HG2.out, rfl, Or.inr ⟨⟨t2, u2, rfl⟩, hf2⟩⟩
  · clear hg1
    go_wp2_with fail
    go_ret2
    exact ⟨X1, nb1, A1, _, _, HG1.out, rfl, Or.inr ⟨⟨t1, u1, rfl⟩, hf1⟩⟩

set_option maxHeartbeats 8000000 in
theorem pcomp9 {c x : Int} {nd : Nd} {sv kv : Value} {X : Nat → Prop} {w : World} {eb mb ab nb : Nat} {lim : Int} {A : List Nd} (ih : IHP c x eb mb ab lim) (hE : Es X w eb mb ab nb lim A) (hlim : lim ≤ 65536) (hx : Valid A x) (hnode : nodeAt A x = nd) (hk : Ints X w kv nd.kids) (hp : PlainR A x) (h8 : nd.kind = 9) :
    Calls Tryz.prog 117 #[.pointer (some ⟨eb, 0, none⟩), .int .i64 x, .agg #[.int .i64 nd.kind, sv, kv, .int .i64 nd.lo, .int .i64 nd.hi], .int .i64 c] w (PcPost c x X w eb mb ab nb lim A) := by
  have hok := hE.en.st.ar.wf.at hx
  rw [hnode] at hok
  obtain ⟨y, ey⟩ := hok.one (Or.inr (Or.inr h8))
  have C0 := PcS.start (sv := sv) hE hx hnode hk hp
  have ek : Pl.kid nd 0 = y := by simp [Pl.kid, ey]
  have hl : nd.kids.length = 1 := by rw [ey]; rfl
  obtain ⟨ka, kc, rfl, k1, k2, k3⟩ := hk
  obtain ⟨g, o, rfl, hxg, hc⟩ := k3 (by rw [ey]; simp)
  obtain ⟨q0, q1, q2, q3⟩ := C0.kid (j := 0) (by omega)
  have eg : nd.kids[0]'(by omega) = y := by simp [ey]
  rw [eg] at q0 q1 q2 q3
  simp only [Nat.add_zero] at q0
  obtain ⟨f0, f1, f2, f3, f4, f5⟩ := C0.facts
  have HC0 := hideIt C0
  have HIH : Hid (IHP c x eb mb ab lim) := ih
  have Hq := hideIt (And.intro q1 (And.intro q2 q3))
  have Hek := hideIt ek
  have H8 := hideIt h8
  have b4 : (nd.kind == 4) = false := by rw [h8]; rfl
  have b5 : (nd.kind == 5) = false := by rw [h8]; rfl
  have b8 : (nd.kind == 8) = false := by rw [h8]; rfl
  have b9 : (nd.kind == 9) = true := by rw [h8]; rfl
  have lm3 : mb + 3 < w.heap.size := by obtain ⟨_, _, m, _⟩ := hE.ax.pn; exact m.lt
  have HG0 := hideIt ((GrX.refl hE).below (alloc_below (.cells #[.int .i64 nd.kind, sv, .slice (some ⟨g, o, none⟩) nd.kids.length kc, .int .i64 nd.lo, .int .i64 nd.hi] 110)))
  clear ih hE hx hnode hok k3 hc C0 q1 q2 q3 ek ey eg h8 hxg hp
  rw [hl] at *
  go_enter Tryz.func117, Tryz.ntmps117
  go_wp2_with fail
  generalize w.alloc (.cells #[.int .i64 nd.kind, sv, .slice (some ⟨g, o, none⟩) 1 kc, .int .i64 nd.lo, .int .i64 nd.hi] 110) = w0 at *
  clear f0 f1 f2 f3 f4 f5 q0
  go_at_call 83
  refine (HIH.out y Hq.out.2.1 X _ nb A HC0.out.es Hq.out.1 Hq.out.2.2).mono ?_
  rintro e w1 ⟨X1, nb1, A1, v1, ev1, hg1, rfl, hh1⟩
  have HG1 := hideIt (HG0.out.trans hg1)
  have HC1 := hideIt (HC0.out.step hg1)
  rcases hh1 with ⟨rfl, l1, hI1, hn1, hp1⟩ | ⟨⟨t1, u1, rfl⟩, rfl, hf1⟩
  · have hl1 : l1.length ≤ 65536 := by
      have h1 := hp1.len hg1.en.st.ar.wf (hg1.le.valid Hq.out.1)
      have h2 := hg1.en.st.ar.len
      omega
    have HI1 := hideIt hI1
    have Hp1 := hideIt hp1
    have Hv1 := hideIt (hp1.valid hg1.en.st.ar.wf (hg1.le.valid Hq.out.1))
    have Hky := hideIt (hg1.le.valid Hq.out.1)
    have Hw1 : Hid (w.heap.size ≤ w1.heap.size) := HG1.out.ext.size
    obtain ⟨a1, c1, rfl, _, _, _⟩ := hI1
    clear hg1 hp1 hn1 HC0 HG0
    by_cases hne : l1 = []
    · subst hne
      have Hpar : Hid (Par A1 c x (Pl.setOf [])) := by rw [setOf_nil]; exact Par.dead (Or.inr (by rw [HC1.out.node]; exact H8.out)) (by rw [HC1.out.node, Hek.out]; exact Hp1.out)
      go_wp2_with fail
      go_ret2
      exact ⟨X1, nb1, A1, _, _, HG1.out, rfl, Or.inl ⟨rfl, [], RX.nil _ _ _ _ _ _, Hpar.out, by simp⟩⟩
    · have Hne := hideIt hne
      have bl : ((l1.length : Int) == 0) = false := by
        rw [beq_eq_false_iff_ne]
        have := List.length_pos_iff.2 hne
        omega
      clear hne
      obtain ⟨e0, e1, e2, e3, e4, e5⟩ := HC1.out.facts
      go_wp2_with fail
      go_at_call 143
      refine ((after9 HC1.out.es.en hlim HC1.out.hx HC1.out.node HC1.out.kids H8.out)).mono ?_
      rintro e w2 ⟨X2, nb2, A2, z2, ev2, hG2, rfl, hh2⟩
      have hg2 := (HC1.out.es.en.grow hG2).toX HC1.out.es
      have HG2 := hideIt (HG1.out.trans hg2)
      have HC2 := hideIt (HC1.out.step hg2)
      have HI2 := hideIt (hg2.seq HC1.out.es HI1.out)
      have Hp2 := hideIt (Hp1.out.le HC1.out.es.en.st.ar.wf hg2.en.st.ar.wf hg2.le Hky.out)
      have Hv2 : Hid (∀ p ∈ l1, Valid A2 p) := fun p hp => hg2.le.valid (Hv1.out p hp)
      have Hw2 : Hid (w.heap.size ≤ w2.heap.size) := HG2.out.ext.size
      clear e0 e1 e2 e3 e4 e5 hG2
      rcases hh2 with ⟨rfl, hv2⟩ | ⟨⟨t2, u2, rfl⟩, rfl, hf2⟩
      · have Hz2 := hideIt hv2.valid
        go_wp2_with fail
        go_at_call 144
        refine (eachThen_walk hlim HC2.out.es HI2.out hl1 Hv2.out Hz2.out).mono ?_
        rintro e w3 ⟨X3, nb3, A3, v3, ev3, hg3, rfl, hh3⟩
        have HG3 := hideIt (HG2.out.trans hg3)
        have HC3 := hideIt (HC2.out.step hg3)
        have Hp3 := hideIt (Hp2.out.le HC2.out.es.en.st.ar.wf hg3.en.st.ar.wf hg3.le (hg2.le.valid Hky.out))
        rcases hh3 with ⟨rfl, qs, hR3, hT3⟩ | ⟨⟨t3, u3, rfl⟩, rfl, hf3⟩
        · have HR3 := hideIt (hR3.base Hw2.out)
          have hql : qs.length ≤ 65536 := by have := hT3.1; omega
          have Hpar : Hid (Par A3 c x (Pl.setOf qs)) := Par.loop (by rw [HC3.out.node]; exact H8.out) (by rw [HC3.out.node, Hek.out]; exact Hp3.out) Hne.out (r := z2) (by have h := hv2.le hg3.le; rw [HC3.out.node, loopN_le (hg2.le.trans hg3.le) (by rw [Hek.out]; exact Hky.out)]; exact h) hT3 rfl
          clear hg3 hR3 hT3 hv2 hg2
          go_wp2_with fail
          go_ret2
          exact ⟨X3, nb3, A3, _, _, HG3.out, rfl, Or.inl ⟨rfl, qs, HR3.out, Hpar.out, by omega⟩⟩
        · clear hg3 hv2 hg2
          go_wp2_with fail
          go_ret2
          exact ⟨X3, nb3, A3, _, _, HG3.out, rfl, Or.inr ⟨⟨t3, u3, rfl⟩, hf3⟩⟩
      · clear hg2
        go_wp2_with fail
        go_ret2
        exact ⟨X2, nb2, A2, _, _, HG2.out, rfl, Or.inr ⟨⟨t2, u2, rfl⟩, hf2⟩⟩
  · clear hg1
    go_wp2_with fail
    go_ret2
    exact ⟨X1, nb1, A1, _, _, HG1.out, rfl, Or.inr ⟨⟨t1, u1, rfl⟩, hf1⟩⟩
end Go.Proofs.Qxb6500848aGreatDoor
