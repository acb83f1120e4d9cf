/-
  partialCompound at a union.
-/
import Derived.Test.Qxb6500848aGreatDoorParB
import Derived.Test.Qxb6500848aGreatDoorSmall
import Derived.Laws.AppendOwnNone
namespace Go.Proofs.Qxb6500848aGreatDoor.Pl

theorem setOf_rising (l : List Int) : (setOf l).Pairwise (· < ·) := by
  unfold setOf Lib.compact
  have hs := srt_sorted l
  generalize srt l = l at hs
  exact compactUpTo_rising l.toArray (fun i j hij hj => by
    have hj' : j < l.length := by simpa using hj
    rw [getElem!_pos l.toArray i (by simp; omega), getElem!_pos l.toArray j hj]
    simp only [List.getElem_toArray]
    by_cases e : i = j
    · subst e; exact Int.le_refl _
    · exact List.pairwise_iff_getElem.1 hs i j (by omega) hj' (by omega)) l.length (by simp)
theorem rising_len {A : List Nd} {l : List Int} (hr : l.Pairwise (· < ·)) (hv : ∀ z ∈ l, Valid A z) : l.length ≤ A.length := by
  have := nodup_le A.length (l.map Int.toNat) (by
    unfold List.Nodup
    rw [List.pairwise_map]
    rw [List.pairwise_iff_getElem] at hr ⊢
    intro i j hi hj hij e
    have h1 := hr i j hi hj hij
    have h2 := hv l[i] (List.getElem_mem hi)
    have h3 := hv l[j] (List.getElem_mem hj)
    unfold Valid at h2 h3
    omega) (by
    intro x hx'
    obtain ⟨z, hz, rfl⟩ := List.mem_map.1 hx'
    exact (hv z hz).2)
  simpa using this
theorem Par.rising {A : List Nd} {c x : Int} {z : List Int} (h : Par A c x z) : z.Pairwise (· < ·) := by
  cases h with
  | none h => exact List.Pairwise.nil
  | all h => exact List.pairwise_singleton _ _
  | cls h hz => subst hz; split <;> simp
  | cat1 h hd hn ht hz => subst hz; exact setOf_rising _
  | cat2 h hd hn ht he hz => subst hz; exact setOf_rising _
  | uni h ls hl hd hz => subst hz; exact setOf_rising _
  | dead h hd => exact List.Pairwise.nil
  | star h hd h0 ht hz => subst hz; exact setOf_rising _
  | loop h hd h0 hr ht hz => subst hz; exact setOf_rising _
theorem Par.len {A : List Nd} (hA : Wf A) {c x : Int} {z : List Int} (h : Par A c x z) (hx : Valid A x) : z.length ≤ A.length := rising_len h.rising (h.valid hA hx)
end Go.Proofs.Qxb6500848aGreatDoor.Pl

namespace Go.Proofs.Qxb6500848aGreatDoor
open Go.RowKit Pl Go.Maps
set_option maxRecDepth 100000

def PaPost (c x : Int) (X : Nat → Prop) (w : World) (eb mb ab nb : Nat) (lim : Int) (A : List Nd) (e : Ending) (w' : World) : Prop :=
  ∃ X' nb' A' v ev, GrX X w eb mb ab nb lim A X' w' nb' A' ∧ e = .returned (.tuple #[v, ev]) ∧ ((ev = .nilIface ∧ ∃ l, Ints X' w' v l ∧ Nz v ∧ Par A' c x l) ∨ ((∃ t v, ev = .iface t v) ∧ v = .slice none 0 0 ∧ Fl lim A' w' ev))
def PcPost (c x : Int) (X : Nat → Prop) (w : World) (eb mb ab nb : Nat) (lim : Int) (A : List Nd) (e : Ending) (w' : World) : Prop :=
  ∃ X' nb' A' v ev, GrX X w eb mb ab nb lim A X' w' nb' A' ∧ e = .returned (.tuple #[v, ev]) ∧ ((ev = .nilIface ∧ ∃ l, RX w.heap.size X' ab nb' mb w' v l ∧ Par A' c x (Pl.setOf l) ∧ l.length ≤ 10000000000) ∨ ((∃ t v, ev = .iface t v) ∧ Fl lim A' w' ev))
def IHP (c x : Int) (eb mb ab : Nat) (lim : Int) : Prop := ∀ y : Int, y.toNat < x.toNat → ∀ (X : Nat → Prop) (w : World) (nb : Nat) (A : List Nd), Es X w eb mb ab nb lim A → Valid A y → PlainR A y → Calls Tryz.prog 83 #[.pointer (some ⟨eb, 0, none⟩), .int .i64 y, .int .i64 c] w (PaPost c y X w eb mb ab nb lim A)

/-- What a step of partialCompound rests on. -/
structure PcS (bx : Nat) (x : Int) (nd : Nd) (sv kv : Value) (X : Nat → Prop) (w : World) (eb mb ab nb : Nat) (lim : Int) (A : List Nd) : Prop where
  es : Es X w eb mb ab nb lim A
  box : w.heap[bx]? = some (.cells #[.int .i64 nd.kind, sv, kv, .int .i64 nd.lo, .int .i64 nd.hi] 110 (0, 0))
  bxn : ¬ X bx
  kids : Ints X w kv nd.kids
  hx : Valid A x
  node : nodeAt A x = nd
  pl : PlainR A x

theorem PcS.step {bx : Nat} {x : Int} {nd : Nd} {sv kv : Value} {X X' : Nat → Prop} {w w' : World} {eb mb ab nb nb' : Nat} {lim : Int} {A A' : List Nd} (h : PcS bx x nd sv kv X w eb mb ab nb lim A) (g : GrX X w eb mb ab nb lim A X' w' nb' A') : PcS bx x nd sv kv X' w' eb mb ab nb' lim A' :=
  ⟨g.es, g.block h.es h.box h.bxn, fun e => h.bxn ((g.sub bx (heap_lt h.box)).1 e), g.seq h.es h.kids, g.le.valid h.hx, (g.le.node h.hx).trans h.node, (PlainR.le h.es.en.st.ar.wf g.le h.hx).2 h.pl⟩

theorem PcS.start {x : Int} {nd : Nd} {sv kv : Value} {X : Nat → Prop} {w : World} {eb mb ab nb : Nat} {lim : Int} {A : List Nd} (hE : Es X w eb mb ab nb lim A) (hx : Valid A x) (hnode : nodeAt A x = nd) (hk : Ints X w kv nd.kids) (hp : PlainR A x) :
    PcS w.heap.size x nd sv kv X (w.alloc (.cells #[.int .i64 nd.kind, sv, kv, .int .i64 nd.lo, .int .i64 nd.hi] 110)) eb mb ab nb lim A :=
  ⟨hE.below (alloc_below _), heap_new _ _, fun e => Nat.lt_irrefl _ (hE.en.st.xlt _ e), hk.below (alloc_below _) (Nat.le_refl _), hx, hnode, hp⟩

theorem PcS.facts {bx : Nat} {x : Int} {nd : Nd} {sv kv : Value} {X : Nat → Prop} {w : World} {eb mb ab nb : Nat} {lim : Int} {A : List Nd} (h : PcS bx x nd sv kv X w eb mb ab nb lim A) :
    w.cell? ⟨eb, 0, none⟩ = some (.pointer (some ⟨ab, 0, none⟩)) ∧ w.cell? ⟨bx, 0, none⟩ = some (.int .i64 nd.kind) ∧ w.cell? ⟨bx, 1, none⟩ = some sv ∧ w.cell? ⟨bx, 2, none⟩ = some kv ∧ w.cell? ⟨bx, 3, none⟩ = some (.int .i64 nd.lo) ∧ w.cell? ⟨bx, 4, none⟩ = some (.int .i64 nd.hi) := by
  obtain ⟨a, b, c, e⟩ := h.es.en.eng
  exact ⟨box_cell e 0, box_cell h.box 0, box_cell h.box 1, box_cell h.box 2, box_cell h.box 3, box_cell h.box 4⟩

theorem PcS.kid {bx : Nat} {x : Int} {nd : Nd} {sv : Value} {g o cap n : Nat} {X : Nat → Prop} {w : World} {eb mb ab nb : Nat} {lim : Int} {A : List Nd} (h : PcS bx x nd sv (.slice (some ⟨g, o, none⟩) n cap) X w eb mb ab nb lim A) {j : Nat} (hj : j < nd.kids.length) :
    w.cell? ⟨g, o + j, none⟩ = some (.int .i64 nd.kids[j]) ∧ Valid A nd.kids[j] ∧ nd.kids[j].toNat < x.toNat ∧ PlainR A nd.kids[j] := by
  obtain ⟨ad, cap', e, _, _, h3⟩ := h.kids
  obtain ⟨g', o', e2, _, hc⟩ := h3 (fun e => by rw [e] at hj; cases hj)
  subst e2
  cases e
  have hm : nd.kids[j] ∈ (nodeAt A x).kids := by rw [h.node]; exact List.getElem_mem hj
  have := h.es.en.st.ar.wf.kidValid h.hx hm
  exact ⟨hc j hj, this.1, this.2, h.pl.kid hm⟩

set_option maxHeartbeats 8000000 in
theorem pcomp5 {c x : Int} {nd : Nd} {sv kv : Value} {X : Nat → Prop} {w : World} {eb mb ab nb : Nat} {lim : Int} {A : List Nd} (ih : IHP c x eb mb ab lim) (hE : Es X w eb mb ab nb lim A) (hx : Valid A x) (hnode : nodeAt A x = nd) (hk : Ints X w kv nd.kids) (hp : PlainR A x) (h5 : nd.kind = 5) :
    Calls Tryz.prog 117 #[.pointer (some ⟨eb, 0, none⟩), .int .i64 x, .agg #[.int .i64 nd.kind, sv, kv, .int .i64 nd.lo, .int .i64 nd.hi], .int .i64 c] w (PcPost c x X w eb mb ab nb lim A) := by
  have hok := hE.en.st.ar.wf.at hx
  rw [hnode] at hok
  have hfew := few64 hE.en.st.ar.wf hE.en.st.ar.len hx
  rw [hnode] at hfew
  have C0 := PcS.start (sv := sv) hE hx hnode hk hp
  obtain ⟨ka, kc, rfl, k1, k2, k3⟩ := hk
  obtain ⟨g, o, rfl, hxg, hc⟩ := k3 (hok.many (by omega))
  clear k3 hc
  obtain ⟨f0, f1, f2, f3, f4, f5⟩ := C0.facts
  have HC0 := hideIt C0
  have HIH : Hid (IHP c x eb mb ab lim) := ih
  have H5 := hideIt h5
  have b5 : (nd.kind == 5) = true := by rw [h5]; rfl
  have lm3 : mb + 3 < w.heap.size := by obtain ⟨_, _, m, _⟩ := hE.ax.pn; exact m.lt
  have HG0 := hideIt ((GrX.refl hE).below (alloc_below (.cells #[.int .i64 nd.kind, sv, .slice (some ⟨g, o, none⟩) nd.kids.length kc, .int .i64 nd.lo, .int .i64 nd.hi] 110)))
  obtain ⟨i0, hi0, hz0, hz1, hz2⟩ := info_parts info_id
  clear ih hE hx hnode hok C0 h5 hxg hp
  go_enter Tryz.func117, Tryz.ntmps117
  go_wp2_with fail
  generalize w.alloc (.cells #[.int .i64 nd.kind, sv, .slice (some ⟨g, o, none⟩) nd.kids.length kc, .int .i64 nd.lo, .int .i64 nd.hi] 110) = w0 at *
  go_loopw [10, 30] (fun v i wr => ∃ (k : Nat) (ls : List (List Int)) (X' : Nat → Prop) (nb' : Nat) (A' : List Nd), k ≤ nd.kids.length ∧ i = .int .i64 k ∧ ls.length = k ∧ GrX X w eb mb ab nb lim A X' wr nb' A' ∧ PcS w.heap.size x nd sv (.slice (some ⟨g, o, none⟩) nd.kids.length kc) X' wr eb mb ab nb' lim A' ∧ RX w.heap.size X' ab nb' mb wr v ls.flatten ∧ (∀ i, i < ls.length → Par A' c (Pl.kid nd i) (ls.getD i [])) ∧ ls.flatten.length ≤ k * 65536) (fun _ i _ => nd.kids.length - (intOf i).toNat)
  case atStart => exact ⟨0, [], X, nb, A, by omega, rfl, rfl, HG0.out, HC0.out, RX.nil _ _ _ _ _ _, fun i hi => by simp at hi, by simp⟩
  case round =>
    obtain ⟨k, ls, X', nb', A', hk, rfl, hll, hG, hC, hR, hD, hfl⟩ := hrel
    have HG := hideIt hG
    have HC := hideIt hC
    have HR := hideIt hR
    have HD := hideIt hD
    have Hll := hideIt hll
    by_cases hlt : k < nd.kids.length
    · have hlt' : (k : Int) < (nd.kids.length : Int) := by omega
      obtain ⟨q0, q1, q2, q3⟩ := hC.kid hlt
      have eg : Pl.kid nd k = nd.kids[k] := getD_lt hlt _
      have Heg := hideIt eg
      have Hq1 := hideIt q1
      have Hq2 := hideIt q2
      have Hq3 := hideIt q3
      generalize nd.kids[k] = y at *
      clear q1 q2 q3 eg hG hC hR hD hll
      go_wp2_with fail
      go_at_call 83
      refine (HIH.out y Hq2.out X' wr nb' A' HC.out.es Hq1.out Hq3.out).mono ?_
      rintro e w1 ⟨X1, nb1, A1, v1, ev1, hg1, rfl, hh1⟩
      have HG1 := hideIt (HG.out.trans hg1)
      have HC1 := hideIt (HC.out.step hg1)
      have HR1 := hideIt (HR.out.grow lm3 hg1)
      rcases hh1 with ⟨rfl, l1, hI1, hn1, hp1⟩ | ⟨⟨t1, u1, rfl⟩, rfl, hf1⟩
      · have hl1 : l1.length ≤ 65536 := by
          have h1 := hp1.len hg1.en.st.ar.wf (hg1.le.valid Hq1.out)
          have h2 := hg1.en.st.ar.len
          omega
        have HD1 : Hid (∀ i, i < (ls ++ [l1]).length → Par A1 c (Pl.kid nd i) ((ls ++ [l1]).getD i [])) := fun i hi => by
          have hkl := Hll.out
          by_cases e : i < ls.length
          · have e1 : (ls ++ [l1]).getD i [] = ls.getD i [] := by
              simp only [List.getD]
              rw [List.getElem?_append_left e]
            rw [e1]
            have hv : Valid A' (Pl.kid nd i) := by
              have := (kid_valid HC.out.es.en.st.ar.wf HC.out.hx (i := i) (by rw [HC.out.node]; omega)).1
              rwa [HC.out.node] at this
            exact (HD.out i e).le HC.out.es.en.st.ar.wf hg1.en.st.ar.wf hg1.le hv
          · have e2 : i = ls.length := by simp at hi; omega
            subst e2
            have e1 : (ls ++ [l1]).getD ls.length [] = l1 := by simp [List.getD]
            rw [e1, hkl, Heg.out]
            exact hp1
        have hfe : (ls ++ [l1]).flatten = ls.flatten ++ l1 := by simp
        have Hfe := hideIt hfe
        have hbs : w.heap.size ≤ w1.heap.size := HG1.out.ext.size
        have Hln : Hid ((ls ++ [l1]).flatten.length ≤ (k + 1) * 65536) := by show _ ≤ _; rw [hfe, List.length_append]; omega
        have hfb : ls.flatten.length ≤ 4294967296 := by omega
        have Hlk : Hid ((ls ++ [l1]).length = k + 1) := by show _ = _; rw [List.length_append, Hll.out]; rfl
        clear hg1 hp1 hfe q0
        by_cases hne : l1 = []
        · subst hne
          obtain ⟨ad, cap1, rfl, _, _, _⟩ := hI1
          cases ad with
          | none =>
            obtain ⟨_, rfl⟩ := hn1 0 cap1 rfl
            have Hown := hideIt HR1.out.own
            go_wp2_with (at_builtin; refine wpList_append_own_none rfl (.tmp 44) (.tmp 45) 37 rfl w.heap.size 28 i0 1 Tryz.underlying37 hi0 _ _ _ rfl Hown.out rfl ?_)
            go_roundw
            case rel => exact ⟨k + 1, ls ++ [[]], X1, nb1, A1, by omega, by go_num, Hlk.out, HG1.out, HC1.out, by rw [Hfe.out, List.append_nil]; exact HR1.out, HD1.out, Hln.out⟩
            case measure => simp [intOf]; omega
          | some a0 =>
            have Hown := hideIt HR1.out.own
            go_wp2_with (at_builtin; refine wpList_append_own_at _ rfl (.tmp 44) (.tmp 45) 37 rfl w.heap.size 28 i0 (.int .i64 0) 1 8 Tryz.underlying37 hi0 hz0 hz1 hz2 rfl (by decide) _ _ _ rfl Hown.out a0 0 cap1 [] rfl rfl (fun j u hu => by simp at hu) (fun u hu => by cases hu) (by unfold maxLen; omega) (by omega) hbs ?_; intro v' w5 hown5 hgrow5 _ hloc5)
            obtain ⟨r1, r2, r3, r4⟩ := HG1.out.pushed (m := []) HR1.out (Below.refl _ _) hgrow5 hloc5 (by rw [List.append_nil]; simpa using hown5)
            go_roundw
            case rel => exact ⟨k + 1, ls ++ [[]], _, nb1, A1, by omega, by go_num, Hlk.out, r1, ⟨r1.es, (r4.block _ (heap_lt HC1.out.box) HC1.out.bxn).trans HC1.out.box, fun q => HC1.out.bxn ((r3 _ (heap_lt HC1.out.box)).1 q), HC1.out.kids.keepX r4 r3, HC1.out.hx, HC1.out.node, HC1.out.pl⟩, by rw [Hfe.out]; exact r2, HD1.out, Hln.out⟩
            case measure => simp [intOf]; omega
        · obtain ⟨ad, cap1, rfl, _, _, h3⟩ := hI1
          obtain ⟨g1, o1, rfl, _, hc1⟩ := h3 hne
          have Hown := hideIt HR1.out.own
          have Hnews := hideIt (ints_news hc1)
          clear h3 hc1 hne hn1
          go_wp2_with (at_builtin; refine wpList_append_own_at _ rfl (.tmp 44) (.tmp 45) 37 rfl w.heap.size 28 i0 (.int .i64 0) 1 8 Tryz.underlying37 hi0 hz0 hz1 hz2 rfl (by decide) _ _ _ rfl Hown.out ⟨g1, o1, none⟩ l1.length cap1 (l1.map encI) rfl (by simp) Hnews.out (one_ints _) (by unfold maxLen; omega) (by omega) hbs ?_; intro v' w5 hown5 hgrow5 _ hloc5)
          obtain ⟨r1, r2, r3, r4⟩ := HG1.out.pushed (m := l1) HR1.out (Below.refl _ _) hgrow5 hloc5 (by rw [List.length_append, List.map_append]; exact hown5)
          go_roundw
          case rel => exact ⟨k + 1, ls ++ [l1], _, nb1, A1, by omega, by go_num, Hlk.out, r1, ⟨r1.es, (r4.block _ (heap_lt HC1.out.box) HC1.out.bxn).trans HC1.out.box, fun q => HC1.out.bxn ((r3 _ (heap_lt HC1.out.box)).1 q), HC1.out.kids.keepX r4 r3, HC1.out.hx, HC1.out.node, HC1.out.pl⟩, by rw [Hfe.out]; exact r2, HD1.out, Hln.out⟩
          case measure => simp [intOf]; omega
      · clear hg1 q0
        go_wp2_with fail
        go_ret2
        exact ⟨X1, nb1, A1, _, _, HG1.out, rfl, Or.inr ⟨⟨t1, u1, rfl⟩, hf1⟩⟩
    · obtain rfl : k = nd.kids.length := by omega
      have hpar : Par A' c x (Pl.setOf ls.flatten) := Par.uni (by rw [hC.node]; exact H5.out) ls (by rw [hC.node]; exact hll) (fun i hi => by rw [hC.node]; exact hD i hi) rfl
      have Hpar := hideIt hpar
      have hfb : ls.flatten.length ≤ 10000000000 := by omega
      clear hG hC hR hD hll hpar
      go_wp2_with fail
      go_ret2
      exact ⟨X', nb', A', _, _, HG.out, rfl, Or.inl ⟨rfl, ls.flatten, HR.out, Hpar.out, hfb⟩⟩
end Go.Proofs.Qxb6500848aGreatDoor
