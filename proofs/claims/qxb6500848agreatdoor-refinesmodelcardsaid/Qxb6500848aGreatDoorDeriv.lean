/-
  The walks of deriv and Deriv.
-/
import Derived.Test.Qxb6500848aGreatDoorComp4
import Derived.Test.Qxb6500848aGreatDoorComp56
import Derived.Test.Qxb6500848aGreatDoorComp89
namespace Go.Proofs.Qxb6500848aGreatDoor
open Go.RowKit Pl Go.Maps
set_option maxRecDepth 100000

theorem compAny {c x : Int} {nd : Nd} {sv kv : Value} {X : Nat → Prop} {w : World} {eb mb ab nb : Nat} {lim : Int} {A : List Nd} (ih : IHD c x eb mb ab lim) (hE : En X w eb mb ab nb lim A) (hlim : lim ≤ 65536) (hx : Valid A x) (hnode : nodeAt A x = nd) (hk : Ints X w kv nd.kids) (h4 : 4 ≤ nd.kind) :
    Calls Tryz.prog 116 #[.pointer (some ⟨eb, 0, none⟩), .int .i64 x, .agg #[.int .i64 nd.kind, sv, kv, .int .i64 nd.lo, .int .i64 nd.hi], .int .i64 c] w (DPost c x X w eb mb ab nb lim A) := by
  have hok := hE.st.ar.wf.at hx
  rw [hnode] at hok
  have h9 := hok.kind.2
  have hc : nd.kind = 4 ∨ nd.kind = 5 ∨ nd.kind = 6 ∨ nd.kind = 7 ∨ nd.kind = 8 ∨ nd.kind = 9 := by omega
  rcases hc with h | h | h | h | h | h
  · exact comp4 ih hE hlim hx hnode hk h
  · exact comp5 ih hE hlim hx hnode hk h
  · exact comp6 ih hE hlim hx hnode hk h
  · exact comp7 ih hE hlim hx hnode hk h
  · exact comp8 ih hE hlim hx hnode hk h
  · exact comp9 ih hE hlim hx hnode hk h

def KeyAt (l : Lit) (p : Int × Int) : Prop := keyOf Tryz.prog 159 (.agg #[.int .i64 p.1, .int .i64 p.2]) = some l ∧ (0 ≤ p.1 ∧ p.1 < 65536) ∧ (0 ≤ p.2 ∧ p.2 ≤ 196607)
open Classical in
noncomputable def code (l : Lit) : Nat := if h : ∃ p, KeyAt l p then (Classical.choose h).1.toNat * 196608 + (Classical.choose h).2.toNat else 0
theorem code_spec {l : Lit} (h : ∃ p, KeyAt l p) : ∃ p, KeyAt l p ∧ code l = p.1.toNat * 196608 + p.2.toNat := by
  refine ⟨Classical.choose h, Classical.choose_spec h, ?_⟩
  unfold code
  rw [dif_pos h]

theorem zero_id (w : World) : (zeroValue 28).run Tryz.prog w = .ok (.int .i64 0) w := by kernel_rfl

theorem En.put {X : Nat → Prop} {w : World} {eb mb ab nb : Nat} {lim : Int} {A : List Nd} (h : En X w eb mb ab nb lim A) {x c z : Int} (hx : Valid A x) (hc : 0 ≤ c ∧ c ≤ 196607) (hd : Der A c x z) :
    ∃ w', (Instr.mapUpdate 114 (.map (some mb)) (.agg #[.int .i64 x, .int .i64 c]) (.int .i64 z)).run Tryz.prog w = .ok () w' ∧ GrE X w eb mb ab nb lim A X w' nb A := by
  obtain ⟨get, ks, hM, hks⟩ := h.memo
  have hlen := h.st.ar.len
  have x0 := hx.1
  have x1 := hx.2
  obtain ⟨kl, hkey⟩ := key_step x c (WalkArith.wf_i64 (by omega)) (WalkArith.wf_i64 (by omega))
  have hex : ∀ k ∈ ks, ∃ p, KeyAt k p := fun k hk => by
    obtain ⟨y, d, _, h1, h2, h3, _⟩ := hks k hk
    exact ⟨(y, d), h1, ⟨h2.1, by have := h2.2; omega⟩, h3⟩
  have hcnt : ks.length ≤ 65536 * 196608 := keys_le hM.nodup code _
    (fun k hk => by
      obtain ⟨p, hp, e⟩ := code_spec (hex k hk)
      have := hp.2.1; have := hp.2.2
      rw [e]; omega)
    (fun k hk k' hk' e => by
      obtain ⟨p, hp, e1⟩ := code_spec (hex k hk)
      obtain ⟨p', hp', e2⟩ := code_spec (hex k' hk')
      rw [e1, e2] at e
      have a1 := hp.2.1; have a2 := hp.2.2; have a3 := hp'.2.1; have a4 := hp'.2.2
      have b1 : p.1 = p'.1 := by omega
      have b2 : p.2 = p'.2 := by omega
      have f1 := hp.1
      rw [b1, b2, hp'.1] at f1
      exact (Option.some.inj f1).symm)
  have hmax : ks.length < maxLen := by unfold maxLen; omega
  have fin : ∀ w' get' ks', Mp 159 w' mb get' ks' → Ext w.heap.size (fun z => z = mb) w w' → get' kl = .int .i64 z → (∀ k ∈ ks', k = kl ∨ (k ∈ ks ∧ get' k = get k)) → GrE X w eb mb ab nb lim A X w' nb A := by
    intro w' get' ks' m' e' g1 g2
    refine ⟨⟨⟨h.st.ar.keep e' (Nat.le_refl _) (fun z _ e => by subst e; exact ⟨h.xm, h.ma, h.mn⟩), fun z hz => Nat.lt_of_lt_of_le (h.st.xlt z hz) e'.size⟩, ?_, h.xe, h.xm, h.ma, h.mn, get', ks', m', fun k hk => ?_⟩, Le.refl _, e'.mono (Nat.le_refl _) (fun i _ e => Or.inr (Or.inr e)), Or.inl rfl, fun _ _ => Iff.rfl⟩
    · obtain ⟨a, b, d, ee⟩ := h.eng
      exact ⟨a, b, d, (e'.block eb h.lb (fun q => h.xe (by rw [show eb = mb from q]; exact h.xm))).trans ee⟩
    · rcases g2 k hk with rfl | ⟨hk, e⟩
      · exact ⟨x, c, z, hkey, hx, hc, g1, hd⟩
      · obtain ⟨y, d, zz, h1, h2, h3, h4, h5⟩ := hks k hk
        exact ⟨y, d, zz, h1, h2, h3, e.trans h4, h5⟩
  by_cases hin : kl ∈ ks
  · obtain ⟨w', get', r1, r2, r3, r4, r5⟩ := hM.over law_step Tryz.underlying114 hmax hkey (law_step.key hkey) hin (.int .i64 z)
    exact ⟨w', r1, fin w' get' ks r2 r5 r3 (fun k hk => by
      by_cases e : k = kl
      · exact Or.inl e
      · exact Or.inr ⟨hk, r4 k hk e⟩)⟩
  · obtain ⟨w', get', r1, r2, r3, r4, r5⟩ := hM.store law_step Tryz.underlying114 hmax hkey (law_step.key hkey) hin (.int .i64 z)
    exact ⟨w', r1, fin w' get' _ r2 r5 r3 (fun k hk => by
      rcases List.mem_cons.1 hk with e | hk
      · exact Or.inl e
      · exact Or.inr ⟨hk, r4 k hk⟩)⟩

/-- What the memo says. -/
theorem En.look {X : Nat → Prop} {w : World} {eb mb ab nb : Nat} {lim : Int} {A : List Nd} (h : En X w eb mb ab nb lim A) {x c : Int} (hx : Valid A x) (hc : 0 ≤ c ∧ c ≤ 196607) :
    (∃ z, (Instr.lookup 114 (.map (some mb)) (.agg #[.int .i64 x, .int .i64 c]) true).run Tryz.prog w = .ok (.tuple #[.int .i64 z, .bool true]) w ∧ Der A c x z) ∨
    (Instr.lookup 114 (.map (some mb)) (.agg #[.int .i64 x, .int .i64 c]) true).run Tryz.prog w = .ok (.tuple #[.int .i64 0, .bool false]) w := by
  obtain ⟨get, ks, hM, hks⟩ := h.memo
  have hlen := h.st.ar.len
  have x0 := hx.1
  have x1 := hx.2
  obtain ⟨kl, hkey⟩ := key_step x c (WalkArith.wf_i64 (by omega)) (WalkArith.wf_i64 (by omega))
  by_cases hin : kl ∈ ks
  · obtain ⟨y, d, z, h1, h2, h3, h4, h5⟩ := hks kl hin
    have e := law_step.inj h1 hkey
    simp only [Value.agg.injEq, Array.mk.injEq, List.cons.injEq, Value.int.injEq, true_and, and_true] at e
    obtain ⟨rfl, rfl⟩ := e
    left
    refine ⟨z, ?_, h5⟩
    have := hM.hit law_step Tryz.underlying114 (zero_id w) hkey hin
    rw [h4] at this
    exact this
  · right
    exact hM.miss law_step Tryz.underlying114 (zero_id w) hkey hin
end Go.Proofs.Qxb6500848aGreatDoor
