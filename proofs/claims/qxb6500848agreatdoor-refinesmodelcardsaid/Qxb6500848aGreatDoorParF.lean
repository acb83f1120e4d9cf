/-
  One step of a set of regexes.
-/
import Derived.Test.Qxb6500848aGreatDoorParE
import Derived.Test.Qxb6500848aGreatDoorDeriv2
namespace Go.Proofs.Qxb6500848aGreatDoor
open Go.RowKit Pl Go.Maps
set_option maxRecDepth 100000

theorem pcompAny {c x : Int} {nd : Nd} {sv kv : Value} {X : Nat → Prop} {w : World} {eb mb ab nb : Nat} {lim : Int} {A : List Nd} (ih : IHP c x eb mb ab lim) (hE : Es X w eb mb ab nb lim A) (hlim : lim ≤ 65536) (hx : Valid A x) (hnode : nodeAt A x = nd) (hk : Ints X w kv nd.kids) (hp : PlainR A x) (h4 : 4 ≤ nd.kind) :
    Calls Tryz.prog 117 #[.pointer (some ⟨eb, 0, none⟩), .int .i64 x, .agg #[.int .i64 nd.kind, sv, kv, .int .i64 nd.lo, .int .i64 nd.hi], .int .i64 c] w (PcPost c x X w eb mb ab nb lim A) := by
  have hok := hE.en.st.ar.wf.at hx
  rw [hnode] at hok
  have h9 := hok.kind.2
  have hn := (plainR_unfold.1 hp).1
  rw [hnode] at hn
  have hc : nd.kind = 4 ∨ nd.kind = 5 ∨ nd.kind = 8 ∨ nd.kind = 9 := by have := hn.1; have := hn.2; omega
  rcases hc with h | h | h | h
  · exact pcomp4 ih hE hlim hx hnode hk hp h
  · exact pcomp5 ih hE hx hnode hk hp h
  · exact pcomp8 ih hE hlim hx hnode hk hp h
  · exact pcomp9 ih hE hlim hx hnode hk hp h

theorem zero_ids (w : World) : (zeroValue 37).run Tryz.prog w = .ok (.slice none 0 0) w := by kernel_rfl

theorem Es.lookPa {X : Nat → Prop} {w : World} {eb mb ab nb : Nat} {lim : Int} {A : List Nd} (h : Es X w eb mb ab nb lim A) {x c : Int} (hx : Valid A x) (hc : 0 ≤ c ∧ c ≤ 196607) :
    (∃ v l, (Instr.lookup 115 (.map (some (mb + 1))) (.agg #[.int .i64 x, .int .i64 c]) true).run Tryz.prog w = .ok (.tuple #[v, .bool true]) w ∧ Ints X w v l ∧ Nz v ∧ Par A c x l) ∨
    (Instr.lookup 115 (.map (some (mb + 1))) (.agg #[.int .i64 x, .int .i64 c]) true).run Tryz.prog w = .ok (.tuple #[.slice none 0 0, .bool false]) w := by
  obtain ⟨get, ks, hM, hks⟩ := h.ax.pa
  have hlen := h.en.st.ar.len
  have x0 := hx.1
  have x1 := hx.2
  obtain ⟨kl, hkey⟩ := key_step x c (WalkArith.wf_i64 (by omega)) (WalkArith.wf_i64 (by omega))
  by_cases hin : kl ∈ ks
  · obtain ⟨y, d, l, h1, h2, h3, h4, h5, h6⟩ := hks kl hin
    have e := law_step.inj h1 hkey
    simp only [Value.agg.injEq, Array.mk.injEq, List.cons.injEq, Value.int.injEq, true_and, and_true] at e
    obtain ⟨rfl, rfl⟩ := e
    left
    exact ⟨get kl, l, hM.hit law_step Tryz.underlying115 (zero_ids w) hkey hin, h4, h5, h6⟩
  · right
    exact hM.miss law_step Tryz.underlying115 (zero_ids w) hkey hin

theorem Es.putPa {X : Nat → Prop} {w : World} {eb mb ab nb : Nat} {lim : Int} {A : List Nd} (h : Es X w eb mb ab nb lim A) {x c : Int} (hx : Valid A x) (hc : 0 ≤ c ∧ c ≤ 196607) {v : Value} {l : List Int} (hi : Ints X w v l) (hn : Nz v) (hd : Par A c x l) :
    ∃ w', (Instr.mapUpdate 115 (.map (some (mb + 1))) (.agg #[.int .i64 x, .int .i64 c]) v).run Tryz.prog w = .ok () w' ∧ GrX X w eb mb ab nb lim A X w' nb A ∧ Ints X w' v l := by
  obtain ⟨get, ks, hM, hks⟩ := h.ax.pa
  have hlen := h.en.st.ar.len
  have x0 := hx.1
  have x1 := hx.2
  obtain ⟨kl, hkey⟩ := key_step x c (WalkArith.wf_i64 (by omega)) (WalkArith.wf_i64 (by omega))
  have hex : ∀ k ∈ ks, ∃ p, KeyAt k p := fun k hk => by
    obtain ⟨y, d, _, h1, h2, h3, _⟩ := hks k hk
    exact ⟨(y, d), h1, ⟨h2.1, by have := h2.2; omega⟩, h3⟩
  have hcnt : ks.length ≤ 65536 * 196608 := keys_le hM.nodup code _
    (fun k hk => by
      obtain ⟨p, hp, e⟩ := code_spec (hex k hk)
      have := hp.2.1; have := hp.2.2
      rw [e]; omega)
    (fun k hk k' hk' e => by
      obtain ⟨p, hp, e1⟩ := code_spec (hex k hk)
      obtain ⟨p', hp', e2⟩ := code_spec (hex k' hk')
      rw [e1, e2] at e
      have a1 := hp.2.1; have a2 := hp.2.2; have a3 := hp'.2.1; have a4 := hp'.2.2
      have b1 : p.1 = p'.1 := by omega
      have b2 : p.2 = p'.2 := by omega
      have f1 := hp.1
      rw [b1, b2, hp'.1] at f1
      exact (Option.some.inj f1).symm)
  have hmax : ks.length < maxLen := by unfold maxLen; omega
  have fin : ∀ w' get' ks', Mp 159 w' (mb + 1) get' ks' → Ext w.heap.size (fun z => z = mb + 1) w w' → get' kl = v → (∀ k ∈ ks', k = kl ∨ (k ∈ ks ∧ get' k = get k)) → GrX X w eb mb ab nb lim A X w' nb A ∧ Ints X w' v l := by
    intro w' get' ks' m' e' g1 g2
    have hT := Turn.one e' h.ax.m1
    refine ⟨GrX.turned h e' (Or.inl rfl) ?_, hT.seq hi⟩
    obtain ⟨a, b, d, he⟩ := h.ax.eng
    obtain ⟨q1, k1, M1, H1⟩ := h.ax.cu
    obtain ⟨q2, k2, M2, H2⟩ := h.ax.pn
    refine ⟨⟨a, b, d, hT.block he⟩, h.ax.n1, h.ax.n2, h.ax.n3, ⟨q1, k1, M1.ext e' M1.lt (by omega), fun k hk => ?_⟩, ⟨get', ks', m', fun k hk => ?_⟩, ⟨q2, k2, M2.ext e' M2.lt (by omega), H2⟩⟩
    · obtain ⟨y, tb, P, r1, r2, r3, r4, r5, r6⟩ := H1 k hk
      exact ⟨y, tb, P, r1, r2, r3, r4.turn hT, r5, r6⟩
    · rcases g2 k hk with rfl | ⟨hk, e⟩
      · exact ⟨x, c, l, hkey, hx, hc, by rw [g1]; exact hT.seq hi, by rw [g1]; exact hn, hd⟩
      · obtain ⟨y, d, zz, h1, h2, h3, h4, h5, h6⟩ := hks k hk
        exact ⟨y, d, zz, h1, h2, h3, by rw [e]; exact hT.seq h4, by rw [e]; exact h5, h6⟩
  by_cases hin : kl ∈ ks
  · obtain ⟨w', get', r1, r2, r3, r4, r5⟩ := hM.over law_step Tryz.underlying115 hmax hkey (law_step.key hkey) hin v
    exact ⟨w', r1, fin w' get' ks r2 r5 r3 (fun k hk => by
      by_cases e : k = kl
      · exact Or.inl e
      · exact Or.inr ⟨hk, r4 k hk e⟩)⟩
  · obtain ⟨w', get', r1, r2, r3, r4, r5⟩ := hM.store law_step Tryz.underlying115 hmax hkey (law_step.key hkey) hin v
    exact ⟨w', r1, fin w' get' _ r2 r5 r3 (fun k hk => by
      rcases List.mem_cons.1 hk with e | hk
      · exact Or.inl e
      · exact Or.inr ⟨hk, r4 k hk⟩)⟩

/-- The row could be kept as one's own. -/
def Kp (X : Nat → Prop) (w : World) (eb mb ab nb : Nat) (lim : Int) (A : List Nd) (w' : World) (nb' : Nat) (A' : List Nd) (v : Value) : Prop :=
  ∃ Y, GrX X w eb mb ab nb lim A Y w' nb' A' ∧ ∀ g, v.ownBlock = some g → Y g ∧ g ≠ ab ∧ g ≠ nb' ∧ g ≠ mb ∧ w.heap.size ≤ g

/-- A row made a set, and given away. -/
theorem GrX.asSet {X X' : Nat → Prop} {w w1 w2 : World} {eb mb ab nb nb' : Nat} {lim : Int} {A A' : List Nd} {v : Value} {l : List Int} {e : Ending} (h : GrX X w eb mb ab nb lim A X' w1 nb' A') (hr : RX w.heap.size X' ab nb' mb w1 v l) (hp : AsPost v l w1 e w2) :
    ∃ v' X5, e = .returned v' ∧ GrX X w eb mb ab nb lim A X5 w2 nb' A' ∧ Ints X5 w2 v' (Pl.setOf l) ∧ Nz v' ∧ (∀ b, X5 b → X' b) ∧ (∀ b, b < w1.heap.size → ¬ X' b → w2.heap[b]? = w1.heap[b]?) ∧ Kp X w eb mb ab nb lim A w2 nb' A' v' := by
  obtain ⟨v', rfl, hg, hh⟩ := hp
  have hkeep : ∀ b, b < w1.heap.size → ¬ X' b → w2.heap[b]? = w1.heap[b]? := fun b hb hn => hg.block b hb (fun e => hn (hr.blk b e.symm).1)
  rcases hh with ⟨hv, hs, rfl⟩ | ⟨g, cap, hv, rfl, c1, c2, hc⟩
  · have hgr := h.below ⟨hg.os, hg.tape, hg.output, hg.size, fun k hk => hg.block k hk (by rw [hv]; simp)⟩
    refine ⟨_, X', rfl, hgr, by rw [hs]; exact Seq.nil _ _, fun n c e => by cases e; exact ⟨rfl, rfl⟩, fun _ q => q, hkeep, X', hgr, fun g e => by cases e⟩
  · obtain ⟨q1, q2, q3, q4⟩ := hr.blk g hv
    have hw := (ownsRow_block hr.own hv).1
    have hgr := h.scr q1 hw q2 q3 q4 ⟨hg.os, hg.tape, hg.output, hg.size, fun k hk hn => hg.block k hk (by rw [hv]; exact fun e => hn (by injection e))⟩
    refine ⟨_, _, rfl, hgr.dropped hw q2 q3 q4, ⟨_, cap, rfl, c1, c2, fun _ => ⟨g, 0, rfl, fun e => e.2 rfl, hc⟩⟩, (fun n c e => by cases e), fun _ q => q.1, hkeep, X', hgr, fun g' e => by cases e; exact ⟨q1, q2, q3, q4, hw⟩⟩

theorem Es.cells {X : Nat → Prop} {w : World} {eb mb ab nb : Nat} {lim : Int} {A : List Nd} (h : Es X w eb mb ab nb lim A) :
    w.cell? ⟨eb, 0, none⟩ = some (.pointer (some ⟨ab, 0, none⟩)) ∧ (∃ mm, w.cell? ⟨eb, 1, none⟩ = some (.bool mm)) ∧ w.cell? ⟨eb, 3, none⟩ = some (.map (some (mb + 1))) := by
  obtain ⟨a, b, c, e⟩ := h.en.eng
  obtain ⟨a', b', c', e'⟩ := h.ax.eng
  exact ⟨box_cell e 0, ⟨_, box_cell e 1⟩, box_cell e' 3⟩

theorem new2 (w : World) (o : Obj) (z : Value) (t : TypeId) : ((w.alloc o).alloc (.cells #[z] t)).cell? ⟨w.heap.size + 1, 0, none⟩ = some z := by
  have h := heap_new (w.alloc o) (.cells #[z] t)
  rw [Deep.nblk_alloc] at h
  exact box_cell h 0

/-- A new row of one number. -/
theorem one_row {X : Nat → Prop} {w w' : World} {g : Nat} {z : Int} (hx : ∀ b, X b → b < w.heap.size) (hg : w.heap.size ≤ g) (hc : w'.cell? ⟨g, 0, none⟩ = some (.int .i64 z)) : Ints X w' (.slice (some ⟨g, 0, none⟩) 1 1) [z] :=
  ⟨_, 1, rfl, Nat.le_refl _, by unfold maxLen; omega, fun _ => ⟨g, 0, rfl, fun e => by have := hx _ e; omega, fun j hj => by
    have : j = 0 := by simp at hj; omega
    subst this; simpa using hc⟩⟩

set_option maxHeartbeats 8000000 in
theorem part_step {c : Int} (hc : 0 ≤ c ∧ c ≤ 196607) {eb mb ab : Nat} {lim : Int} (hlim : lim ≤ 65536) (x : Int) (ih : IHP c x eb mb ab lim) (X : Nat → Prop) (w : World) (nb : Nat) (A : List Nd) (hE : Es X w eb mb ab nb lim A) (hx : Valid A x) (hp : PlainR A x) :
    Calls Tryz.prog 83 #[.pointer (some ⟨eb, 0, none⟩), .int .i64 x, .int .i64 c] w (PaPost c x X w eb mb ab nb lim A) := by
  obtain ⟨cap, _, _, n1⟩ := hE.en.st.ar.node
  obtain ⟨sv, kv, hN⟩ := n1 x hx
  have HN := hideIt hN
  obtain ⟨_, _, _, _, _, hk, hs⟩ := hN
  have HK := hideIt hk
  have HSs := hideIt hs
  have hok := hE.en.st.ar.wf.at hx
  obtain ⟨nd, hnd⟩ : ∃ nd, nodeAt A x = nd := ⟨_, rfl⟩
  have Hnd := hideIt hnd
  rw [hnd] at hok HK HSs
  obtain ⟨ka, kc, rfl, _, _, _⟩ := hk
  obtain ⟨sa, sc, rfl, _, _, _⟩ := hs
  rw [hnd] at HN HK HSs
  have Hok := hideIt hok
  have hk0 := hok.kind.1
  obtain ⟨f0, ⟨mm0, f1⟩, f2⟩ := hE.cells
  have HE := hideIt hE
  have Hx := hideIt hx
  have Hp := hideIt hp
  have el := hE.en.lb
  have hlen := hE.en.st.ar.len
  have hx0 := hx.1
  have hx1 := hx.2
  have Hnode : Hid (Calls Tryz.prog 82 #[.pointer (some ⟨ab, 0, none⟩), .int .i64 x] w fun e w' =>
      e = .returned (.agg #[.int .i64 nd.kind, .slice sa nd.bits.length sc, .slice ka nd.kids.length kc, .int .i64 nd.lo, .int .i64 nd.hi]) ∧ Below w.heap.size w w') := by
    have := node_walk w hE.en.st.ar x hx (sv := .slice sa nd.bits.length sc) (kv := .slice ka nd.kids.length kc) (by rw [hnd]; exact HN.out)
    rw [hnd] at this
    exact this
  have HIH : Hid (IHP c x eb mb ab lim) := ih
  have Hxl := hideIt hE.en.st.xlt
  have Hnil : Hid (∀ (X : Nat → Prop) w, Ints X w (.slice none 0 0) []) := fun X w => Seq.nil _ _
  have Hnz0 : Hid (Nz (.slice none 0 0)) := fun n c e => by cases e; exact ⟨rfl, rfl⟩
  clear n1 hok hE hx ih hnd hp
  by_cases h0 : nd.kind = 0 ∨ nd.kind = 1
  · have Hd : Hid (Par A c x []) := Par.none (by rw [Hnd.out]; exact h0)
    rcases h0 with h0 | h0
    · have b0 : (nd.kind == 0) = true := by rw [h0]; rfl
      clear h0
      go_enter Tryz.func83, Tryz.ntmps83
      go_wp2_with (go_at_call 82; refine Hnode.out.mono ?_; rintro e w1 ⟨rfl, hb1⟩; have HB1 := hideIt hb1; clear hb1)
      go_ret2
      exact ⟨X, nb, A, _, _, ((GrX.refl HE.out).below HB1.out).below (alloc_below _), rfl, Or.inl ⟨rfl, [], Hnil.out _ _, Hnz0.out, Hd.out⟩⟩
    · have b0 : (nd.kind == 0) = false := by rw [h0]; rfl
      have b1 : (nd.kind == 1) = true := by rw [h0]; rfl
      clear h0
      go_enter Tryz.func83, Tryz.ntmps83
      go_wp2_with (go_at_call 82; refine Hnode.out.mono ?_; rintro e w1 ⟨rfl, hb1⟩; have HB1 := hideIt hb1; clear hb1)
      go_ret2
      exact ⟨X, nb, A, _, _, ((GrX.refl HE.out).below HB1.out).below (alloc_below _), rfl, Or.inl ⟨rfl, [], Hnil.out _ _, Hnz0.out, Hd.out⟩⟩
  · have b0 : (nd.kind == 0) = false := by simp; omega
    have b1 : (nd.kind == 1) = false := by simp; omega
    by_cases h2 : nd.kind = 2
    · have Hd : Hid (Par A c x [2]) := Par.all (by rw [Hnd.out]; exact h2)
      have b2 : (nd.kind == 2) = true := by rw [h2]; rfl
      clear h2
      go_enter Tryz.func83, Tryz.ntmps83
      go_wp2_with (go_at_call 82; refine Hnode.out.mono ?_; rintro e w1 ⟨rfl, hb1⟩; have HB1 := hideIt hb1; clear hb1)
      go_ret2
      have s1 := HB1.out.size
      exact ⟨X, nb, A, _, _, (((GrX.refl HE.out).below HB1.out).below (alloc_below _)).below (alloc_below _), rfl, Or.inl ⟨rfl, [2], one_row Hxl.out (by omega) (new2 _ _ _ _), (fun n c e => by cases e), Hd.out⟩⟩
    · have b2 : (nd.kind == 2) = false := by simp; omega
      by_cases h3 : nd.kind = 3
      · have b3 : (nd.kind == 3) = true := by rw [h3]; rfl
        obtain ⟨q1, q2⟩ := Hok.out.cls h3
        have Hq1 := hideIt q1
        have Hq2 := hideIt q2
        have Hd : Hid (∀ z, (z = if hasC nd.bits c then [(1 : Int)] else []) → Par A c x z) := fun z hz => Par.cls (by rw [Hnd.out]; exact h3) (by rw [Hnd.out]; exact hz)
        clear h3 q1 q2
        go_enter Tryz.func83, Tryz.ntmps83
        go_wp2_with (first
          | (go_at_call 82; refine Hnode.out.mono ?_; rintro e w1 ⟨rfl, hb1⟩; have HB1 := hideIt hb1; clear hb1)
          | (go_at_call 21; refine (sethas_walk ((HSs.out.below HB1.out (Nat.le_refl _)).below (alloc_below _) (Nat.le_refl _)) Hq1.out Hq2.out c).mono ?_; rintro e w2 ⟨rfl, rfl⟩; cases hcc : hasC nd.bits c))
        all_goals go_ret2
        · exact ⟨X, nb, A, _, _, ((GrX.refl HE.out).below HB1.out).below (alloc_below _), rfl, Or.inl ⟨rfl, [], Hnil.out _ _, Hnz0.out, Hd.out [] (by simp [hcc])⟩⟩
        · have s1 := HB1.out.size
          exact ⟨X, nb, A, _, _, (((GrX.refl HE.out).below HB1.out).below (alloc_below _)).below (alloc_below _), rfl, Or.inl ⟨rfl, [1], one_row Hxl.out (by omega) (new2 _ _ _ _), (fun n c e => by cases e), Hd.out [1] (by simp [hcc])⟩⟩
      · have b3 : (nd.kind == 3) = false := by simp; omega
        have h4 : 4 ≤ nd.kind := by omega
        have H4 := hideIt h4
        clear h0 h2 h3 h4 hk0
        go_enter Tryz.func83, Tryz.ntmps83
        go_wp2_with (go_at_call 82; refine Hnode.out.mono ?_; rintro e w1 ⟨rfl, hb1⟩; have E1 := HE.out.below hb1; obtain ⟨g0, ⟨mm, g1⟩, g2⟩ := E1.cells; have HE1 := hideIt E1; have el1 := E1.en.lb; have HB1 := hideIt hb1; clear hb1 E1; cases mm)
        · have B2 : Below w.heap.size w ((w1.alloc (.cells #[.int .i64 nd.kind, .slice sa nd.bits.length sc, .slice ka nd.kids.length kc, .int .i64 nd.lo, .int .i64 nd.hi] 110)).alloc (.cells #[.int .i64 x, .int .i64 c] 159)) := (HB1.out.trans ((alloc_below _).mono HB1.out.size)).trans ((alloc_below _).mono (by rw [Deep.nblk_alloc]; have := HB1.out.size; omega))
          have E2 := HE.out.below B2
          have kb : ((w1.alloc (.cells #[.int .i64 nd.kind, .slice sa nd.bits.length sc, .slice ka nd.kids.length kc, .int .i64 nd.lo, .int .i64 nd.hi] 110)).alloc (.cells #[.int .i64 x, .int .i64 c] 159)).heap[w1.heap.size + 1]? = some (.cells #[.int .i64 x, .int .i64 c] 159) := by
            have := heap_new (w1.alloc (.cells #[.int .i64 nd.kind, .slice sa nd.bits.length sc, .slice ka nd.kids.length kc, .int .i64 nd.lo, .int .i64 nd.hi] 110)) (.cells #[.int .i64 x, .int .i64 c] 159)
            rw [Deep.nblk_alloc] at this
            exact this
          have HKB := hideIt kb
          have HXk : Hid (¬ X (w1.heap.size + 1)) := fun h => by have := HE.out.en.st.xlt _ h; have := HB1.out.size; omega
          have HE2 := hideIt E2
          have HB2 := hideIt B2
          have hsz2 : w1.heap.size + 1 < ((w1.alloc (.cells #[.int .i64 nd.kind, .slice sa nd.bits.length sc, .slice ka nd.kids.length kc, .int .i64 nd.lo, .int .i64 nd.hi] 110)).alloc (.cells #[.int .i64 x, .int .i64 c] 159)).heap.size := heap_lt kb
          have Hsz := hideIt hsz2
          clear kb hsz2 B2
          clear E2
          go_at_call 117
          refine (pcompAny HIH.out HE2.out hlim Hx.out Hnd.out (HK.out.below HB2.out (Nat.le_refl _)) Hp.out H4.out).mono ?_
          rintro e w4 ⟨X1, nb1, A1, v1, ev1, hg1, rfl, hh1⟩
          have hkb4 := hg1.block HE2.out HKB.out HXk.out
          have HKB4 := hideIt hkb4
          have HXk4 : Hid (¬ X1 (w1.heap.size + 1)) := fun q => HXk.out ((hg1.sub _ Hsz.out).1 q)
          have HG1 := hideIt hg1
          clear hg1 hkb4
          rcases hh1 with ⟨rfl, l1, hr1, hd1, hl1⟩ | ⟨⟨t1, v1, rfl⟩, hf1⟩
          · have HR1 := hideIt hr1
            have Hd1 := hideIt hd1
            have Has := hideIt (asSet_walk hr1.own (by omega))
            clear hr1 hd1
            go_wp2_with fail
            go_at_call 85
            refine Has.out.mono ?_
            rintro e w5 hp5
            obtain ⟨v5, X5, rfl, hg5, hi5, hn5, hs5, hk5, _⟩ := HG1.out.asSet HR1.out hp5
            have kb5 := (hk5 _ (heap_lt HKB4.out) HXk4.out).trans HKB4.out
            have k0 := box_cell kb5 0
            have k1 := box_cell kb5 1
            simp only [List.getElem?_toArray, List.getElem?_cons_zero, List.getElem?_cons_succ] at k0 k1
            obtain ⟨j0, ⟨mm2, j1⟩, j2⟩ := hg5.es.cells
            cases mm2
            · have HG6 := hideIt hg5
              have Hi6 := hideIt hi5
              have Hn5 := hideIt hn5
              clear hg5 hi5 hn5 hs5 hk5 kb5 hp5
              go_wp2_with fail
              go_ret2
              exact ⟨X5, nb1, A1, _, _, GrX.after HB2.out HG6.out, rfl, Or.inl ⟨rfl, _, Hi6.out, Hn5.out, Hd1.out⟩⟩
            · obtain ⟨w6, hput, hg6, hi6⟩ := (hg5.es.below (below_d _)).putPa (hg5.le.valid Hx.out) hc (hi5.below (below_d _) (Nat.le_refl _)) hn5 Hd1.out
              have HG6 := hideIt ((hg5.below (below_d _)).trans hg6)
              have Hi6 := hideIt hi6
              have Hn5 := hideIt hn5
              clear hg5 hg6 hi6 hi5 hn5 hs5 hk5 kb5 hp5
              go_wp2_with fail
              go_region
              go_wp2_with fail
              go_ret2
              exact ⟨X5, nb1, A1, _, _, GrX.after HB2.out HG6.out, rfl, Or.inl ⟨rfl, _, Hi6.out, Hn5.out, Hd1.out⟩⟩
          · go_wp2_with fail
            go_ret2
            exact ⟨X1, nb1, A1, _, _, GrX.after HB2.out HG1.out, rfl, Or.inr ⟨⟨t1, v1, rfl⟩, rfl, hf1⟩⟩
        · have B2 : Below w.heap.size w ((w1.alloc (.cells #[.int .i64 nd.kind, .slice sa nd.bits.length sc, .slice ka nd.kids.length kc, .int .i64 nd.lo, .int .i64 nd.hi] 110)).alloc (.cells #[.int .i64 x, .int .i64 c] 159)).drew := (HB1.out.trans ((alloc_below _).mono HB1.out.size)).trans (((alloc_below _).mono (by rw [Deep.nblk_alloc]; have := HB1.out.size; omega)).trans ((below_d _).mono (by rw [Deep.nblk_alloc, Deep.nblk_alloc]; have := HB1.out.size; omega)))
          have E2 := HE.out.below B2
          have kb : ((w1.alloc (.cells #[.int .i64 nd.kind, .slice sa nd.bits.length sc, .slice ka nd.kids.length kc, .int .i64 nd.lo, .int .i64 nd.hi] 110)).alloc (.cells #[.int .i64 x, .int .i64 c] 159)).drew.heap[w1.heap.size + 1]? = some (.cells #[.int .i64 x, .int .i64 c] 159) := by
            have := heap_new (w1.alloc (.cells #[.int .i64 nd.kind, .slice sa nd.bits.length sc, .slice ka nd.kids.length kc, .int .i64 nd.lo, .int .i64 nd.hi] 110)) (.cells #[.int .i64 x, .int .i64 c] 159)
            rw [Deep.nblk_alloc] at this
            exact this
          have HKB := hideIt kb
          have HXk : Hid (¬ X (w1.heap.size + 1)) := fun h => by have := HE.out.en.st.xlt _ h; have := HB1.out.size; omega
          have HE2 := hideIt E2
          have HB2 := hideIt B2
          have hsz2 : w1.heap.size + 1 < ((w1.alloc (.cells #[.int .i64 nd.kind, .slice sa nd.bits.length sc, .slice ka nd.kids.length kc, .int .i64 nd.lo, .int .i64 nd.hi] 110)).alloc (.cells #[.int .i64 x, .int .i64 c] 159)).drew.heap.size := heap_lt kb
          have Hsz := hideIt hsz2
          clear kb hsz2 B2
          rcases E2.lookPa Hx.out hc with ⟨v, l, hl, hi, hn, hd⟩ | hl
          · have Hd := hideIt hd
            have Hi := hideIt hi
            have Hn := hideIt hn
            clear hd E2 hi hn
            go_region
            go_wp2_with fail
            go_ret2
            exact ⟨X, nb, A, _, _, (GrX.refl HE.out).below HB2.out, rfl, Or.inl ⟨rfl, l, Hi.out, Hn.out, Hd.out⟩⟩
          · clear E2
            go_region
            clear hl
            go_wp2_with fail
            go_at_call 117
            refine (pcompAny HIH.out HE2.out hlim Hx.out Hnd.out (HK.out.below HB2.out (Nat.le_refl _)) Hp.out H4.out).mono ?_
            rintro e w4 ⟨X1, nb1, A1, v1, ev1, hg1, rfl, hh1⟩
            have hkb4 := hg1.block HE2.out HKB.out HXk.out
            have HKB4 := hideIt hkb4
            have HXk4 : Hid (¬ X1 (w1.heap.size + 1)) := fun q => HXk.out ((hg1.sub _ Hsz.out).1 q)
            have HG1 := hideIt hg1
            clear hg1 hkb4
            rcases hh1 with ⟨rfl, l1, hr1, hd1, hl1⟩ | ⟨⟨t1, v1, rfl⟩, hf1⟩
            · have HR1 := hideIt hr1
              have Hd1 := hideIt hd1
              have Has := hideIt (asSet_walk hr1.own (by omega))
              clear hr1 hd1
              go_wp2_with fail
              go_at_call 85
              refine Has.out.mono ?_
              rintro e w5 hp5
              obtain ⟨v5, X5, rfl, hg5, hi5, hn5, hs5, hk5, _⟩ := HG1.out.asSet HR1.out hp5
              have kb5 := (hk5 _ (heap_lt HKB4.out) HXk4.out).trans HKB4.out
              have k0 := box_cell kb5 0
              have k1 := box_cell kb5 1
              simp only [List.getElem?_toArray, List.getElem?_cons_zero, List.getElem?_cons_succ] at k0 k1
              obtain ⟨j0, ⟨mm2, j1⟩, j2⟩ := hg5.es.cells
              cases mm2
              · have HG6 := hideIt hg5
                have Hi6 := hideIt hi5
                have Hn5 := hideIt hn5
                clear hg5 hi5 hn5 hs5 hk5 kb5 hp5
                go_wp2_with fail
                go_ret2
                exact ⟨X5, nb1, A1, _, _, GrX.after HB2.out HG6.out, rfl, Or.inl ⟨rfl, _, Hi6.out, Hn5.out, Hd1.out⟩⟩
              · obtain ⟨w6, hput, hg6, hi6⟩ := (hg5.es.below (below_d _)).putPa (hg5.le.valid Hx.out) hc (hi5.below (below_d _) (Nat.le_refl _)) hn5 Hd1.out
                have HG6 := hideIt ((hg5.below (below_d _)).trans hg6)
                have Hi6 := hideIt hi6
                have Hn5 := hideIt hn5
                clear hg5 hg6 hi6 hi5 hn5 hs5 hk5 kb5 hp5
                go_wp2_with fail
                go_region
                go_wp2_with fail
                go_ret2
                exact ⟨X5, nb1, A1, _, _, GrX.after HB2.out HG6.out, rfl, Or.inl ⟨rfl, _, Hi6.out, Hn5.out, Hd1.out⟩⟩
            · go_wp2_with fail
              go_ret2
              exact ⟨X1, nb1, A1, _, _, GrX.after HB2.out HG1.out, rfl, Or.inr ⟨⟨t1, v1, rfl⟩, rfl, hf1⟩⟩

theorem part_walk {c : Int} (hc : 0 ≤ c ∧ c ≤ 196607) {eb mb ab : Nat} {lim : Int} (hlim : lim ≤ 65536) : ∀ (m : Nat) (x : Int), x.toNat = m → ∀ (X : Nat → Prop) (w : World) (nb : Nat) (A : List Nd), Es X w eb mb ab nb lim A → Valid A x → PlainR A x →
    Calls Tryz.prog 83 #[.pointer (some ⟨eb, 0, none⟩), .int .i64 x, .int .i64 c] w (PaPost c x X w eb mb ab nb lim A) := by
  intro m
  induction m using Nat.strongRecOn with
  | ind m ih =>
    intro x hm X w nb A hE hx hp
    subst hm
    exact part_step hc hlim x (fun y hy X w nb A hE hy' hp => ih y.toNat hy y rfl X w nb A hE hy' hp) X w nb A hE hx hp
end Go.Proofs.Qxb6500848aGreatDoor
