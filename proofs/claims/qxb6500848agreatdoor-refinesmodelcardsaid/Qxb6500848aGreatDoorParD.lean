/-
  partialCompound at a concatenation.
-/
import Derived.Test.Qxb6500848aGreatDoorParC
namespace Go.Proofs.Qxb6500848aGreatDoor
open Go.RowKit Pl Go.Maps
set_option maxRecDepth 100000

theorem RX.base {B B' : Nat} {X : Nat → Prop} {ab nb mb : Nat} {w : World} {v : Value} {l : List Int} (h : RX B X ab nb mb w v l) (hB : B' ≤ B) : RX B' X ab nb mb w v l := by
  refine ⟨⟨h.own.1, ?_⟩, h.blk⟩
  rcases h.own.2 with h1 | ⟨g, cap, cur, e, hb, r⟩
  · exact Or.inl h1
  · exact Or.inr ⟨g, cap, cur, e, by omega, r⟩

set_option maxHeartbeats 8000000 in
theorem pcomp4 {c x : Int} {nd : Nd} {sv kv : Value} {X : Nat → Prop} {w : World} {eb mb ab nb : Nat} {lim : Int} {A : List Nd} (ih : IHP c x eb mb ab lim) (hE : Es X w eb mb ab nb lim A) (hlim : lim ≤ 65536) (hx : Valid A x) (hnode : nodeAt A x = nd) (hk : Ints X w kv nd.kids) (hp : PlainR A x) (h4 : nd.kind = 4) :
    Calls Tryz.prog 117 #[.pointer (some ⟨eb, 0, none⟩), .int .i64 x, .agg #[.int .i64 nd.kind, sv, kv, .int .i64 nd.lo, .int .i64 nd.hi], .int .i64 c] w (PcPost c x X w eb mb ab nb lim A) := by
  have hok := hE.en.st.ar.wf.at hx
  rw [hnode] at hok
  obtain ⟨y0, y1, ey⟩ := hok.two h4
  have C0 := PcS.start (sv := sv) hE hx hnode hk hp
  have ek0 : Pl.kid nd 0 = y0 := by simp [Pl.kid, ey]
  have ek1 : Pl.kid nd 1 = y1 := by simp [Pl.kid, ey]
  have hl : nd.kids.length = 2 := by rw [ey]; rfl
  obtain ⟨ka, kc, rfl, k1, k2, k3⟩ := hk
  obtain ⟨g, o, rfl, hxg, hc⟩ := k3 (by rw [ey]; simp)
  obtain ⟨q0, q1, q2, q3⟩ := C0.kid (j := 0) (by omega)
  obtain ⟨p0, p1, p2, p3⟩ := C0.kid (j := 1) (by omega)
  have eg0 : nd.kids[0]'(by omega) = y0 := by simp [ey]
  have eg1 : nd.kids[1]'(by omega) = y1 := by simp [ey]
  rw [eg0] at q0 q1 q2 q3
  rw [eg1] at p0 p1 p2 p3
  simp only [Nat.add_zero] at q0
  obtain ⟨f0, f1, f2, f3, f4, f5⟩ := C0.facts
  have HC0 := hideIt C0
  have HIH : Hid (IHP c x eb mb ab lim) := ih
  have Hq := hideIt (And.intro q1 (And.intro q2 q3))
  have Hp := hideIt (And.intro p1 (And.intro p2 p3))
  have Hek := hideIt (And.intro ek0 ek1)
  have H4 := hideIt h4
  have Hmem : Hid (y1 ∈ nd.kids) := by show _ ∈ _; rw [ey]; simp
  have b5 : (nd.kind == 5) = false := by rw [h4]; rfl
  have b4 : (nd.kind == 4) = true := by rw [h4]; rfl
  have lm3 : mb + 3 < w.heap.size := by obtain ⟨_, _, m, _⟩ := hE.ax.pn; exact m.lt
  have HG0 := hideIt ((GrX.refl hE).below (alloc_below (.cells #[.int .i64 nd.kind, sv, .slice (some ⟨g, o, none⟩) nd.kids.length kc, .int .i64 nd.lo, .int .i64 nd.hi] 110)))
  obtain ⟨i0, hi0, hz0, hz1, hz2⟩ := info_parts info_id
  clear ih hE hx hnode hok k3 hc C0 q1 q2 q3 p1 p2 p3 ek0 ek1 ey eg0 eg1 h4 hxg hp
  rw [hl] at *
  go_enter Tryz.func117, Tryz.ntmps117
  go_wp2_with fail
  go_region
  go_wp2_with fail
  generalize w.alloc (.cells #[.int .i64 nd.kind, sv, .slice (some ⟨g, o, none⟩) 2 kc, .int .i64 nd.lo, .int .i64 nd.hi] 110) = w0 at *
  have HCd := hideIt (HC0.out.step ((GrX.refl HC0.out.es).below (below_d w0)))
  have HGd := hideIt (HG0.out.below (below_d w0))
  clear HC0 HG0 f0 f1 f2 f3 f4 f5 q0 p0
  go_at_call 83
  refine (HIH.out y0 Hq.out.2.1 X _ nb A HCd.out.es Hq.out.1 Hq.out.2.2).mono ?_
  rintro e w1 ⟨X1, nb1, A1, v1, ev1, hg1, rfl, hh1⟩
  have HG1 := hideIt (HGd.out.trans hg1)
  have HC1 := hideIt (HCd.out.step hg1)
  rcases hh1 with ⟨rfl, l1, hI1, hn1, hp1⟩ | ⟨⟨t1, u1, rfl⟩, rfl, hf1⟩
  · have hl1 : l1.length ≤ 65536 := by
      have h1 := hp1.len hg1.en.st.ar.wf (hg1.le.valid Hq.out.1)
      have h2 := hg1.en.st.ar.len
      omega
    have HI1 := hideIt hI1
    have Hp1 := hideIt hp1
    have Hv1 := hideIt (hp1.valid hg1.en.st.ar.wf (hg1.le.valid Hq.out.1))
    have Hy0 := hideIt (hg1.le.valid Hq.out.1)
    have Hy1 := hideIt (hg1.le.valid Hp.out.1)
    have Hw1 : Hid (w.heap.size ≤ w1.heap.size) := HG1.out.ext.size
    obtain ⟨a1, c1, rfl, _, _, _⟩ := hI1
    clear hg1 hp1 hn1 HCd HGd
    go_wp2_with fail
    go_at_call 144
    refine (eachThen_walk hlim HC1.out.es HI1.out hl1 Hv1.out Hy1.out).mono ?_
    rintro e w2 ⟨X2, nb2, A2, v2, ev2, hg2, rfl, hh2⟩
    have HG2 := hideIt (HG1.out.trans hg2)
    have HC2 := hideIt (HC1.out.step hg2)
    rcases hh2 with ⟨rfl, qs, hR2, hT2⟩ | ⟨⟨t2, u2, rfl⟩, rfl, hf2⟩
    · have HR2 := hideIt (hR2.base Hw1.out)
      have HT2 := hideIt hT2
      have Hp2 := hideIt (Hp1.out.le HC1.out.es.en.st.ar.wf hg2.en.st.ar.wf hg2.le Hy0.out)
      have Hy0' := hideIt (hg2.le.valid Hy0.out)
      have Hy1' := hideIt (hg2.le.valid Hy1.out)
      have hql : qs.length ≤ 65536 := by have := hT2.1; omega
      obtain ⟨e0, _, _, _, _, _⟩ := HC2.out.facts
      clear hg2 hR2 hT2 HC1 HG1 Hp1 Hy0 Hy1 HI1 Hv1
      go_wp2_with fail
      go_at_call 86
      refine (nullable_walk HC2.out.es.en.st Hy0'.out).mono ?_
      rintro e w3 ⟨b, rfl, hb, hB3⟩
      have HG3 := hideIt (HG2.out.below hB3)
      have HC3 := hideIt (HC2.out.step ((GrX.refl HC2.out.es).below hB3))
      have HR3 := hideIt (HR2.out.below hB3)
      have Hb := hideIt hb
      clear hb hB3 HC2 HG2 HR2 e0
      cases b
      · have Hpar : Hid (Par A2 c x (Pl.setOf qs)) := Par.cat1 (by rw [HC3.out.node]; exact H4.out) (by rw [HC3.out.node, Hek.out.1]; exact Hp2.out) (by rw [HC3.out.node, Hek.out.1]; exact fun h => absurd (Hb.out.2 h) (by simp)) (by rw [HC3.out.node, Hek.out.2]; exact HT2.out) rfl
        go_wp2_with fail
        go_ret2
        exact ⟨X2, nb2, A2, _, _, HG3.out, rfl, Or.inl ⟨rfl, qs, HR3.out, Hpar.out, by omega⟩⟩
      · go_wp2_with fail
        go_at_call 83
        refine (HIH.out y1 Hp.out.2.1 X2 w3 nb2 A2 HC3.out.es Hy1'.out (HC3.out.pl.kid (k := y1) (by rw [HC3.out.node]; exact Hmem.out))).mono ?_
        rintro e w4 ⟨X4, nb4, A4, v4, ev4, hg4, rfl, hh4⟩
        have HG4 := hideIt (HG3.out.trans hg4)
        have HC4 := hideIt (HC3.out.step hg4)
        have HR4 := hideIt (HR3.out.grow lm3 hg4)
        have hbs : w.heap.size ≤ w4.heap.size := HG4.out.ext.size
        have Hown := hideIt HR4.out.own
        rcases hh4 with ⟨rfl, l4, hI4, hn4, hp4⟩ | ⟨⟨t4, u4, rfl⟩, rfl, hf4⟩
        · have hl4 : l4.length ≤ 65536 := by
            have h1 := hp4.len hg4.en.st.ar.wf (hg4.le.valid Hy1'.out)
            have h2 := hg4.en.st.ar.len
            omega
          have Hpar : Hid (Par A4 c x (Pl.setOf (qs ++ l4))) := Par.cat2 (by rw [HC4.out.node]; exact H4.out) (by rw [HC4.out.node, Hek.out.1]; exact Hp2.out.le HC3.out.es.en.st.ar.wf hg4.en.st.ar.wf hg4.le Hy0'.out) (by rw [HC4.out.node, Hek.out.1, hg4.le.lang HC3.out.es.en.st.ar.wf hg4.en.st.ar.wf Hy0'.out]; exact Hb.out.1 (by trivial)) (by rw [HC4.out.node, Hek.out.2]; exact HT2.out.le hg4.le) (by rw [HC4.out.node, Hek.out.2]; exact hp4) rfl
          clear hg4 hp4 Hp2 HT2
          by_cases hne : l4 = []
          · subst hne
            obtain ⟨ad, cap4, rfl, _, _, _⟩ := hI4
            cases ad with
            | none =>
              obtain ⟨_, rfl⟩ := hn4 0 cap4 rfl
              go_wp2_with (at_builtin; refine wpList_append_own_none rfl (.tmp 96) (.tmp 97) 37 rfl w.heap.size 28 i0 1 Tryz.underlying37 hi0 _ _ _ rfl Hown.out rfl ?_)
              go_ret2
              exact ⟨X4, nb4, A4, _, _, HG4.out, rfl, Or.inl ⟨rfl, qs ++ [], by rw [List.append_nil]; exact HR4.out, Hpar.out, by simp; omega⟩⟩
            | some a0 =>
              go_wp2_with (at_builtin; refine wpList_append_own_at _ rfl (.tmp 96) (.tmp 97) 37 rfl w.heap.size 28 i0 (.int .i64 0) 1 8 Tryz.underlying37 hi0 hz0 hz1 hz2 rfl (by decide) _ _ _ rfl Hown.out a0 0 cap4 [] rfl rfl (fun j u hu => by simp at hu) (fun u hu => by cases hu) (by unfold maxLen; omega) (by omega) hbs ?_; intro v' w5 hown5 hgrow5 _ hloc5)
              go_ret2
              obtain ⟨r1, r2, r3, r4⟩ := HG4.out.pushed (m := []) HR4.out (Below.refl _ _) hgrow5 hloc5 (by rw [List.append_nil]; simpa using hown5)
              exact ⟨_, nb4, A4, _, _, r1, rfl, Or.inl ⟨rfl, qs ++ [], r2, Hpar.out, by simp; omega⟩⟩
          · obtain ⟨ad, cap4, rfl, _, _, h3⟩ := hI4
            obtain ⟨g4, o4, rfl, _, hc4⟩ := h3 hne
            have Hnews := hideIt (ints_news hc4)
            clear h3 hc4 hne hn4
            go_wp2_with (at_builtin; refine wpList_append_own_at _ rfl (.tmp 96) (.tmp 97) 37 rfl w.heap.size 28 i0 (.int .i64 0) 1 8 Tryz.underlying37 hi0 hz0 hz1 hz2 rfl (by decide) _ _ _ rfl Hown.out ⟨g4, o4, none⟩ l4.length cap4 (l4.map encI) rfl (by simp) Hnews.out (one_ints _) (by unfold maxLen; omega) (by omega) hbs ?_; intro v' w5 hown5 hgrow5 _ hloc5)
            go_ret2
            obtain ⟨r1, r2, r3, r4⟩ := HG4.out.pushed (m := l4) HR4.out (Below.refl _ _) hgrow5 hloc5 (by rw [List.length_append, List.map_append]; exact hown5)
            exact ⟨_, nb4, A4, _, _, r1, rfl, Or.inl ⟨rfl, qs ++ l4, r2, Hpar.out, by rw [List.length_append]; omega⟩⟩
        · clear hg4
          go_wp2_with (at_builtin; refine wpList_append_own_none rfl (.tmp 96) (.tmp 97) 37 rfl w.heap.size 28 i0 1 Tryz.underlying37 hi0 _ _ _ rfl Hown.out rfl ?_)
          go_ret2
          exact ⟨X4, nb4, A4, _, _, HG4.out, rfl, Or.inr ⟨⟨t4, u4, rfl⟩, hf4⟩⟩
    · clear hg2
      go_wp2_with fail
      go_ret2
      exact ⟨X2, nb2, A2, _, _, HG2.out, rfl, Or.inr ⟨⟨t2, u2, rfl⟩, hf2⟩⟩
  · clear hg1
    go_wp2_with fail
    go_ret2
    exact ⟨X1, nb1, A1, _, _, HG1.out, rfl, Or.inr ⟨⟨t1, u1, rfl⟩, hf1⟩⟩
end Go.Proofs.Qxb6500848aGreatDoor
