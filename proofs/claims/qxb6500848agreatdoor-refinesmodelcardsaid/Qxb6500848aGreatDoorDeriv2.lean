/-
  The walks of deriv and Deriv.
-/
import Derived.Test.Qxb6500848aGreatDoorDeriv
namespace Go.Proofs.Qxb6500848aGreatDoor
open Go.RowKit Pl Go.Maps
set_option maxRecDepth 100000

theorem En.cells {X : Nat → Prop} {w : World} {eb mb ab nb : Nat} {lim : Int} {A : List Nd} (h : En X w eb mb ab nb lim A) :
    w.cell? ⟨eb, 0, none⟩ = some (.pointer (some ⟨ab, 0, none⟩)) ∧ (∃ mm, w.cell? ⟨eb, 1, none⟩ = some (.bool mm)) ∧ w.cell? ⟨eb, 2, none⟩ = some (.map (some mb)) := by
  obtain ⟨a, b, c, e⟩ := h.eng
  exact ⟨box_cell e 0, ⟨_, box_cell e 1⟩, box_cell e 2⟩

set_option maxHeartbeats 4000000 in
theorem deriv_step {c : Int} (hc : 0 ≤ c ∧ c ≤ 196607) {eb mb ab : Nat} {lim : Int} (hlim : lim ≤ 65536) (x : Int) (ih : IHD c x eb mb ab lim) (X : Nat → Prop) (w : World) (nb : Nat) (A : List Nd) (hE : En X w eb mb ab nb lim A) (hx : Valid A x) :
    Calls Tryz.prog 75 #[.pointer (some ⟨eb, 0, none⟩), .int .i64 x, .int .i64 c] w (DPost c x X w eb mb ab nb lim A) := by
  obtain ⟨cap, _, _, n1⟩ := hE.st.ar.node
  obtain ⟨sv, kv, hN⟩ := n1 x hx
  have HN := hideIt hN
  obtain ⟨_, _, _, _, _, hk, hs⟩ := hN
  have HK := hideIt hk
  have HSs := hideIt hs
  have hok := hE.st.ar.wf.at hx
  obtain ⟨nd, hnd⟩ : ∃ nd, nodeAt A x = nd := ⟨_, rfl⟩
  have Hnd := hideIt hnd
  rw [hnd] at hok HK HSs
  obtain ⟨ka, kc, rfl, _, _, _⟩ := hk
  obtain ⟨sa, sc, rfl, _, _, _⟩ := hs
  rw [hnd] at HN HK HSs
  have Hok := hideIt hok
  have hk0 := hok.kind.1
  obtain ⟨f0, ⟨mm0, f1⟩, f2⟩ := hE.cells
  have HE := hideIt hE
  have Hx := hideIt hx
  have el := hE.lb
  have hlen := hE.st.ar.len
  have hx0 := hx.1
  have hx1 := hx.2
  have Hnode : Hid (Calls Tryz.prog 82 #[.pointer (some ⟨ab, 0, none⟩), .int .i64 x] w fun e w' =>
      e = .returned (.agg #[.int .i64 nd.kind, .slice sa nd.bits.length sc, .slice ka nd.kids.length kc, .int .i64 nd.lo, .int .i64 nd.hi]) ∧ Below w.heap.size w w') := by
    have := node_walk w hE.st.ar x hx (sv := .slice sa nd.bits.length sc) (kv := .slice ka nd.kids.length kc) (by rw [hnd]; exact HN.out)
    rw [hnd] at this
    exact this
  have HIH := hideIt ih
  clear n1 hok hE hx ih hnd
  by_cases h0 : nd.kind = 0 ∨ nd.kind = 1
  · have Hd : Hid (Der A c x 0) := Der.none (by rw [Hnd.out]; exact h0)
    rcases h0 with h0 | h0
    · have b0 : (nd.kind == 0) = true := by rw [h0]; rfl
      clear h0
      go_enter Tryz.func75, Tryz.ntmps75
      go_wp2_with (go_at_call 82; refine Hnode.out.mono ?_; rintro e w1 ⟨rfl, hb1⟩)
      go_ret2
      exact ⟨X, nb, A, 0, _, ((GrE.refl HE.out).below hb1 (Nat.le_refl _)).below (alloc_below _) (Nat.le_refl _), rfl, Or.inl ⟨rfl, Hd.out⟩⟩
    · have b0 : (nd.kind == 0) = false := by rw [h0]; rfl
      have b1 : (nd.kind == 1) = true := by rw [h0]; rfl
      clear h0
      go_enter Tryz.func75, Tryz.ntmps75
      go_wp2_with (go_at_call 82; refine Hnode.out.mono ?_; rintro e w1 ⟨rfl, hb1⟩)
      go_ret2
      exact ⟨X, nb, A, 0, _, ((GrE.refl HE.out).below hb1 (Nat.le_refl _)).below (alloc_below _) (Nat.le_refl _), rfl, Or.inl ⟨rfl, Hd.out⟩⟩
  · have b0 : (nd.kind == 0) = false := by simp; omega
    have b1 : (nd.kind == 1) = false := by simp; omega
    by_cases h2 : nd.kind = 2
    · have Hd : Hid (Der A c x 2) := Der.all (by rw [Hnd.out]; exact h2)
      have b2 : (nd.kind == 2) = true := by rw [h2]; rfl
      clear h2
      go_enter Tryz.func75, Tryz.ntmps75
      go_wp2_with (go_at_call 82; refine Hnode.out.mono ?_; rintro e w1 ⟨rfl, hb1⟩)
      go_ret2
      exact ⟨X, nb, A, 2, _, ((GrE.refl HE.out).below hb1 (Nat.le_refl _)).below (alloc_below _) (Nat.le_refl _), rfl, Or.inl ⟨rfl, Hd.out⟩⟩
    · have b2 : (nd.kind == 2) = false := by simp; omega
      by_cases h3 : nd.kind = 3
      · have b3 : (nd.kind == 3) = true := by rw [h3]; rfl
        obtain ⟨q1, q2⟩ := Hok.out.cls h3
        have Hq1 := hideIt q1
        have Hq2 := hideIt q2
        have Hd : Hid (∀ z, (z = if hasC nd.bits c then (1 : Int) else 0) → Der A c x z) := fun z hz => Der.cls (by rw [Hnd.out]; exact h3) (by rw [Hnd.out]; exact hz)
        clear h3 q1 q2
        go_enter Tryz.func75, Tryz.ntmps75
        go_wp2_with (first
          | (go_at_call 82; refine Hnode.out.mono ?_; rintro e w1 ⟨rfl, hb1⟩; have HB1 := hideIt hb1; clear hb1)
          | (go_at_call 21; refine (sethas_walk ((HSs.out.below HB1.out (Nat.le_refl _)).below (alloc_below _) (Nat.le_refl _)) Hq1.out Hq2.out c).mono ?_; rintro e w2 ⟨rfl, rfl⟩; cases hcc : hasC nd.bits c))
        all_goals go_ret2
        · exact ⟨X, nb, A, 0, _, ((GrE.refl HE.out).below HB1.out (Nat.le_refl _)).below (alloc_below _) (Nat.le_refl _), rfl, Or.inl ⟨rfl, Hd.out 0 (by simp [hcc])⟩⟩
        · exact ⟨X, nb, A, 1, _, ((GrE.refl HE.out).below HB1.out (Nat.le_refl _)).below (alloc_below _) (Nat.le_refl _), rfl, Or.inl ⟨rfl, Hd.out 1 (by simp [hcc])⟩⟩
      · have b3 : (nd.kind == 3) = false := by simp; omega
        have h4 : 4 ≤ nd.kind := by omega
        have H4 := hideIt h4
        clear h0 h2 h3 h4 hk0
        go_enter Tryz.func75, Tryz.ntmps75
        go_wp2_with (go_at_call 82; refine Hnode.out.mono ?_; rintro e w1 ⟨rfl, hb1⟩; have E1 := HE.out.below hb1 (Nat.le_refl _); obtain ⟨g0, ⟨mm, g1⟩, g2⟩ := E1.cells; have HE1 := hideIt E1; have el1 := E1.lb; have HB1 := hideIt hb1; clear hb1 E1; cases mm)
        · have B2 : Below w.heap.size w ((w1.alloc (.cells #[.int .i64 nd.kind, .slice sa nd.bits.length sc, .slice ka nd.kids.length kc, .int .i64 nd.lo, .int .i64 nd.hi] 110)).alloc (.cells #[.int .i64 x, .int .i64 c] 159)) := (HB1.out.trans ((alloc_below _).mono HB1.out.size)).trans ((alloc_below _).mono (by rw [Deep.nblk_alloc]; have := HB1.out.size; omega))
          have E2 := HE.out.below B2 (Nat.le_refl _)
          have kb : ((w1.alloc (.cells #[.int .i64 nd.kind, .slice sa nd.bits.length sc, .slice ka nd.kids.length kc, .int .i64 nd.lo, .int .i64 nd.hi] 110)).alloc (.cells #[.int .i64 x, .int .i64 c] 159)).heap[w1.heap.size + 1]? = some (.cells #[.int .i64 x, .int .i64 c] 159) := by
            have := heap_new (w1.alloc (.cells #[.int .i64 nd.kind, .slice sa nd.bits.length sc, .slice ka nd.kids.length kc, .int .i64 nd.lo, .int .i64 nd.hi] 110)) (.cells #[.int .i64 x, .int .i64 c] 159)
            rw [Deep.nblk_alloc] at this
            exact this
          have HKB := hideIt kb
          have HXk : Hid (¬ X (w1.heap.size + 1)) := fun h => by have := HE.out.st.xlt _ h; have := HB1.out.size; omega
          have HE2 := hideIt E2
          have HB2 := hideIt B2
          have hsz2 : w1.heap.size + 1 < ((w1.alloc (.cells #[.int .i64 nd.kind, .slice sa nd.bits.length sc, .slice ka nd.kids.length kc, .int .i64 nd.lo, .int .i64 nd.hi] 110)).alloc (.cells #[.int .i64 x, .int .i64 c] 159)).heap.size := heap_lt kb
          have Hsz := hideIt hsz2
          clear kb hsz2 B2
          clear E2
          go_at_call 116
          refine (compAny HIH.out HE2.out hlim Hx.out Hnd.out (HK.out.below HB2.out (Nat.le_refl _)) H4.out).mono ?_
          rintro e w4 ⟨X1, nb1, A1, z1, ev1, hg1, rfl, hh1⟩
          have kb4 := (hg1.ext.block _ Hsz.out (HE2.out.out HXk.out)).trans HKB.out
          have k0 := box_cell kb4 0
          have k1 := box_cell kb4 1
          simp only [List.getElem?_toArray, List.getElem?_cons_zero, List.getElem?_cons_succ] at k0 k1
          obtain ⟨j0, ⟨mm2, j1⟩, j2⟩ := hg1.en.cells
          have HG1 := hideIt hg1
          clear hg1 kb4
          rcases hh1 with ⟨rfl, hd1⟩ | ⟨⟨t1, v1, rfl⟩, rfl, hf1⟩
          · cases mm2
            · have Hd1 := hideIt hd1
              clear hd1
              go_wp2_with fail
              go_ret2
              exact ⟨X1, nb1, A1, z1, _, GrE.after HB2.out (Nat.le_refl _) HG1.out, rfl, Or.inl ⟨rfl, Hd1.out⟩⟩
            · obtain ⟨w5, hput, hg5⟩ := (HG1.out.en.below (below_d _) (Nat.le_refl _)).put (HG1.out.le.valid Hx.out) hc hd1
              have HG5 := hideIt hg5
              have Hd1 := hideIt hd1
              clear hg5 hd1
              go_wp2_with fail
              go_region
              go_wp2_with fail
              go_ret2
              exact ⟨X1, nb1, A1, z1, _, (GrE.after HB2.out (Nat.le_refl _) HG1.out).trans (GrE.after (below_d _) (Nat.le_refl _) HG5.out), rfl, Or.inl ⟨rfl, Hd1.out⟩⟩
          · go_wp2_with fail
            go_ret2
            exact ⟨X1, nb1, A1, 0, _, GrE.after HB2.out (Nat.le_refl _) HG1.out, rfl, Or.inr ⟨⟨t1, v1, rfl⟩, rfl, hf1⟩⟩
        · have B2 : Below w.heap.size w ((w1.alloc (.cells #[.int .i64 nd.kind, .slice sa nd.bits.length sc, .slice ka nd.kids.length kc, .int .i64 nd.lo, .int .i64 nd.hi] 110)).alloc (.cells #[.int .i64 x, .int .i64 c] 159)).drew := (HB1.out.trans ((alloc_below _).mono HB1.out.size)).trans (((alloc_below _).mono (by rw [Deep.nblk_alloc]; have := HB1.out.size; omega)).trans ((below_d _).mono (by rw [Deep.nblk_alloc, Deep.nblk_alloc]; have := HB1.out.size; omega)))
          have E2 := HE.out.below B2 (Nat.le_refl _)
          have kb : ((w1.alloc (.cells #[.int .i64 nd.kind, .slice sa nd.bits.length sc, .slice ka nd.kids.length kc, .int .i64 nd.lo, .int .i64 nd.hi] 110)).alloc (.cells #[.int .i64 x, .int .i64 c] 159)).drew.heap[w1.heap.size + 1]? = some (.cells #[.int .i64 x, .int .i64 c] 159) := by
            have := heap_new (w1.alloc (.cells #[.int .i64 nd.kind, .slice sa nd.bits.length sc, .slice ka nd.kids.length kc, .int .i64 nd.lo, .int .i64 nd.hi] 110)) (.cells #[.int .i64 x, .int .i64 c] 159)
            rw [Deep.nblk_alloc] at this
            exact this
          have HKB := hideIt kb
          have HXk : Hid (¬ X (w1.heap.size + 1)) := fun h => by have := HE.out.st.xlt _ h; have := HB1.out.size; omega
          have HE2 := hideIt E2
          have HB2 := hideIt B2
          have hsz2 : w1.heap.size + 1 < ((w1.alloc (.cells #[.int .i64 nd.kind, .slice sa nd.bits.length sc, .slice ka nd.kids.length kc, .int .i64 nd.lo, .int .i64 nd.hi] 110)).alloc (.cells #[.int .i64 x, .int .i64 c] 159)).drew.heap.size := heap_lt kb
          have Hsz := hideIt hsz2
          clear kb hsz2 B2
          rcases E2.look Hx.out hc with ⟨z, hl, hd⟩ | hl
          · have Hd := hideIt hd
            clear hd E2
            go_region
            go_wp2_with fail
            go_ret2
            exact ⟨X, nb, A, z, _, (GrE.refl HE.out).below HB2.out (Nat.le_refl _), rfl, Or.inl ⟨rfl, Hd.out⟩⟩
          · clear E2
            go_region
            clear hl
            go_wp2_with fail
            go_at_call 116
            refine (compAny HIH.out HE2.out hlim Hx.out Hnd.out (HK.out.below HB2.out (Nat.le_refl _)) H4.out).mono ?_
            rintro e w4 ⟨X1, nb1, A1, z1, ev1, hg1, rfl, hh1⟩
            have kb4 := (hg1.ext.block _ Hsz.out (HE2.out.out HXk.out)).trans HKB.out
            have k0 := box_cell kb4 0
            have k1 := box_cell kb4 1
            simp only [List.getElem?_toArray, List.getElem?_cons_zero, List.getElem?_cons_succ] at k0 k1
            obtain ⟨j0, ⟨mm2, j1⟩, j2⟩ := hg1.en.cells
            have HG1 := hideIt hg1
            clear hg1 kb4
            rcases hh1 with ⟨rfl, hd1⟩ | ⟨⟨t1, v1, rfl⟩, rfl, hf1⟩
            · cases mm2
              · have Hd1 := hideIt hd1
                clear hd1
                go_wp2_with fail
                go_ret2
                exact ⟨X1, nb1, A1, z1, _, GrE.after HB2.out (Nat.le_refl _) HG1.out, rfl, Or.inl ⟨rfl, Hd1.out⟩⟩
              · obtain ⟨w5, hput, hg5⟩ := (HG1.out.en.below (below_d _) (Nat.le_refl _)).put (HG1.out.le.valid Hx.out) hc hd1
                have HG5 := hideIt hg5
                have Hd1 := hideIt hd1
                clear hg5 hd1
                go_wp2_with fail
                go_region
                go_wp2_with fail
                go_ret2
                exact ⟨X1, nb1, A1, z1, _, (GrE.after HB2.out (Nat.le_refl _) HG1.out).trans (GrE.after (below_d _) (Nat.le_refl _) HG5.out), rfl, Or.inl ⟨rfl, Hd1.out⟩⟩
            · go_wp2_with fail
              go_ret2
              exact ⟨X1, nb1, A1, 0, _, GrE.after HB2.out (Nat.le_refl _) HG1.out, rfl, Or.inr ⟨⟨t1, v1, rfl⟩, rfl, hf1⟩⟩

theorem deriv_walk {c : Int} (hc : 0 ≤ c ∧ c ≤ 196607) {eb mb ab : Nat} {lim : Int} (hlim : lim ≤ 65536) : ∀ (m : Nat) (x : Int), x.toNat = m → ∀ (X : Nat → Prop) (w : World) (nb : Nat) (A : List Nd), En X w eb mb ab nb lim A → Valid A x →
    Calls Tryz.prog 75 #[.pointer (some ⟨eb, 0, none⟩), .int .i64 x, .int .i64 c] w (DPost c x X w eb mb ab nb lim A) := by
  intro m
  induction m using Nat.strongRecOn with
  | ind m ih =>
    intro x hm X w nb A hE hx
    subst hm
    exact deriv_step hc hlim x (fun y hy X w nb A hE hy' => ih y.toNat hy y rfl X w nb A hE hy') X w nb A hE hx

/-- What Deriv hands back: a quotient. -/
def QPost (c x : Int) (X : Nat → Prop) (w : World) (eb mb ab nb : Nat) (lim : Int) (A : List Nd) (e : Ending) (w' : World) : Prop :=
  ∃ X' nb' A' z ev, GrE X w eb mb ab nb lim A X' w' nb' A' ∧ e = .returned (.tuple #[.int .i64 z, ev]) ∧ ((ev = .nilIface ∧ Valid A' z ∧ (∀ u, (Alph u ∧ lang A' z u) ↔ (Alph (c :: u) ∧ lang A' x (c :: u))) ∧ ((0 ≤ c ∧ c ≤ 196607) → Der A' c x z)) ∨ ((∃ t v, ev = .iface t v) ∧ z = 0 ∧ Fl lim A' w' ev))

set_option maxHeartbeats 1000000 in
theorem Deriv_walk {c : Int} {eb mb ab : Nat} {lim : Int} (hlim : lim ≤ 65536) {x : Int} {X : Nat → Prop} {w : World} {nb : Nat} {A : List Nd} (hE : En X w eb mb ab nb lim A) (hx : Valid A x) :
    Calls Tryz.prog 25 #[.pointer (some ⟨eb, 0, none⟩), .int .i64 x, .int .i64 c] w (QPost c x X w eb mb ab nb lim A) := by
  have HE := hideIt hE
  have Hx := hideIt hx
  clear hE hx
  by_cases hc : 0 ≤ c ∧ c ≤ 196607
  · go_enter Tryz.func25, Tryz.ntmps25
    go_wp2_with (first
      | (go_at_call 79; refine (inAlphabet_walk c _).mono ?_; rintro e w1 ⟨rfl, rfl⟩; rw [decide_eq_true hc])
      | (go_at_call 75; refine (deriv_walk hc hlim _ x rfl X _ nb A HE.out Hx.out).mono ?_; rintro e w2 ⟨X1, nb1, A1, z1, ev1, hg1, rfl, hh1⟩))
    go_ret2
    refine ⟨X1, nb1, A1, z1, ev1, hg1, rfl, hh1.imp (fun h => ⟨h.1, ?_⟩) id⟩
    have hq := h.2.quot hg1.en.st.ar.wf (hg1.le.valid Hx.out)
    refine ⟨hq.1, fun u => ⟨fun hu => ⟨?_, (hq.2 u hu.1).1 hu.2⟩, fun hu => ⟨hu.1.tail, (hq.2 u hu.1.tail).2 hu.2⟩⟩, fun _ => h.2⟩
    intro d hd
    rcases List.mem_cons.1 hd with rfl | hd
    · exact hc
    · exact hu.1 d hd
  · go_enter Tryz.func25, Tryz.ntmps25
    go_wp2_with (go_at_call 79; refine (inAlphabet_walk c _).mono ?_; rintro e w1 ⟨rfl, rfl⟩; rw [decide_eq_false hc])
    go_ret2
    refine ⟨X, nb, A, 0, _, GrE.refl HE.out, rfl, Or.inl ⟨rfl, HE.out.st.ar.wf.v0, fun u => ⟨fun hu => ?_, fun hu => absurd (hu.1 c (by simp)) hc⟩, fun h => absurd h hc⟩⟩
    rw [lang0 HE.out.st.ar.wf] at hu
    exact hu.2.elim
end Go.Proofs.Qxb6500848aGreatDoor
