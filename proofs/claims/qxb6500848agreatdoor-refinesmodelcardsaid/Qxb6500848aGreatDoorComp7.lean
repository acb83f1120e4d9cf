/-
  derivCompound at a complement.
-/
import Derived.Test.Qxb6500848aGreatDoorAfter
namespace Go.Proofs.Qxb6500848aGreatDoor
open Go.RowKit Pl Go.Maps
set_option maxRecDepth 100000

/-- What is known of the lesser states. -/
def IHD (c x : Int) (eb mb ab : Nat) (lim : Int) : Prop :=
  ∀ (y : Int), y.toNat < x.toNat → ∀ (X : Nat → Prop) (w : World) (nb : Nat) (A : List Nd), En X w eb mb ab nb lim A → Valid A y →
    Calls Tryz.prog 75 #[.pointer (some ⟨eb, 0, none⟩), .int .i64 y, .int .i64 c] w (DPost c y X w eb mb ab nb lim A)

theorem CS.start {x : Int} {nd : Nd} {sv kv : Value} {X : Nat → Prop} {w : World} {eb mb ab nb : Nat} {lim : Int} {A : List Nd} (hE : En X w eb mb ab nb lim A) (hx : Valid A x) (hn : nodeAt A x = nd) (hk : Ints X w kv nd.kids) :
    CS w.heap.size x nd sv kv X (w.alloc (.cells #[.int .i64 nd.kind, sv, kv, .int .i64 nd.lo, .int .i64 nd.hi] 110)) eb mb ab nb lim A :=
  ⟨hE.below (alloc_below _) (Nat.le_refl _), heap_new _ _, fun h => Nat.lt_irrefl _ (hE.st.xlt _ h), hk.below (alloc_below _) (Nat.le_refl _), hx, hn⟩

set_option maxHeartbeats 2000000 in
theorem comp7 {c x : Int} {nd : Nd} {sv kv : Value} {X : Nat → Prop} {w : World} {eb mb ab nb : Nat} {lim : Int} {A : List Nd} (ih : IHD c x eb mb ab lim) (hE : En X w eb mb ab nb lim A) (hlim : lim ≤ 65536) (hx : Valid A x) (hnode : nodeAt A x = nd) (hk : Ints X w kv nd.kids) (h7 : nd.kind = 7) :
    Calls Tryz.prog 116 #[.pointer (some ⟨eb, 0, none⟩), .int .i64 x, .agg #[.int .i64 nd.kind, sv, kv, .int .i64 nd.lo, .int .i64 nd.hi], .int .i64 c] w (DPost c x X w eb mb ab nb lim A) := by
  have hok := hE.st.ar.wf.at hx
  rw [hnode] at hok
  obtain ⟨y, ey⟩ := hok.one (Or.inl h7)
  have C0 := CS.start (sv := sv) hE hx hnode hk
  have ek : kid nd 0 = y := by simp [kid, ey]
  have hl : nd.kids.length = 1 := by rw [ey]; rfl
  obtain ⟨ka, kc, rfl, k1, k2, k3⟩ := hk
  obtain ⟨g, o, rfl, hxg, hc⟩ := k3 (by rw [ey]; simp)
  obtain ⟨q0, q1, q2⟩ := C0.kid (j := 0) (by omega)
  have eg : nd.kids[0]'(by omega) = y := by simp [ey]
  rw [eg] at q0 q1 q2
  simp only [Nat.add_zero] at q0
  obtain ⟨f0, f1, f2, f3, f4, f5⟩ := C0.facts
  have HC0 := hideIt C0
  have Hq1 := hideIt q1
  have Hq2 := hideIt q2
  have HIH := hideIt ih
  have Hek := hideIt ek
  have H7 := hideIt h7
  have b4 : (nd.kind == 4) = false := by rw [h7]; rfl
  have b5 : (nd.kind == 5) = false := by rw [h7]; rfl
  have b6 : (nd.kind == 6) = false := by rw [h7]; rfl
  have b7 : (nd.kind == 7) = true := by rw [h7]; rfl
  clear ih hE hx hnode hok k3 hc C0 q1 q2 ek ey eg h7
  rw [hl] at *
  go_enter Tryz.func116, Tryz.ntmps116
  go_wp2_with fail
  go_at_call 75
  refine (HIH.out y Hq2.out X _ nb A HC0.out.en Hq1.out).mono ?_
  rintro e w1 ⟨X1, nb1, A1, z1, ev1, hg1, rfl, hh1⟩
  have C1 := HC0.out.step hg1
  obtain ⟨p0, p1, p2, p3, p4, p5⟩ := C1.facts
  have HC1 := hideIt C1
  have HG1 := hideIt hg1
  clear C1 hg1
  rcases hh1 with ⟨rfl, hd1⟩ | ⟨⟨t1, v1, rfl⟩, rfl, hf1⟩
  · go_wp2_with (go_at_call 105; refine (comp_walk HC1.out.en.st hlim (hd1.valid HC1.out.en.st.ar.wf (HG1.out.le.valid Hq1.out))).mono ?_; rintro e w2 ⟨X2, nb2, A2, z2, ev2, hG2, rfl, hh2⟩)
    go_ret2
    have g2 := HC1.out.en.grow hG2
    have C2 := HC1.out.step g2
    refine ⟨X2, nb2, A2, z2, ev2, (GrE.after (alloc_below _) (Nat.le_refl _) HG1.out).trans g2, rfl, hh2.imp (fun h => ⟨h.1, ?_⟩) id⟩
    have hvy := HG1.out.le.valid Hq1.out
    exact Der.comp (d := z1) (by rw [C2.node]; exact H7.out) (by rw [C2.node, Hek.out]; exact hd1.le HC1.out.en.st.ar.wf C2.en.st.ar.wf g2.le hvy) (by rw [compN_le g2.le (hd1.valid HC1.out.en.st.ar.wf hvy)]; exact h.2)
  · go_wp2_with fail
    go_ret2
    exact ⟨X1, nb1, A1, 0, _, GrE.after (alloc_below _) (Nat.le_refl _) HG1.out, rfl, Or.inr ⟨⟨t1, v1, rfl⟩, rfl, hf1⟩⟩
end Go.Proofs.Qxb6500848aGreatDoor
