/-
  eachThen.
-/
import Derived.Test.Qxb6500848aGreatDoorParA
namespace Go.Proofs.Qxb6500848aGreatDoor
open Go.RowKit Pl Go.Maps
set_option maxRecDepth 100000

theorem run_make_cap (n : Nat) (hn : n ≤ 65536) (w : World) : (Instr.makeSlice 37 (.int .i64 0) (.int .i64 ((n : Int) + 1))).run Tryz.prog w = .ok (.slice (some ⟨w.heap.size, 0, none⟩) 0 (n + 1)) (w.alloc (.cells (madeCells #[.int .i64 0] (n + 1)) 28)) := by
  obtain ⟨i, hi, hzz⟩ := Option.map_eq_some_iff.1 info_id
  simp only [Prod.mk.injEq] at hzz
  obtain ⟨hz, hs, hb⟩ := hzz
  have hr := run_make (P := Tryz.prog) w 37 28 i _ Tryz.underlying37 hi hz .i64 .i64 0 ((n : Int) + 1) (by omega) (by omega) (by rw [hb]; omega) (by omega)
  have e : ((n : Int) + 1).toNat = n + 1 := by omega
  simp only [e, hs, Nat.mul_one] at hr
  exact hr

theorem rx_made {X X' : Nat → Prop} {w w1 : World} {eb mb ab nb nb' : Nat} {lim : Int} {A A' : List Nd} (h : GrX X w eb mb ab nb lim A X' w1 nb' A') (n : Nat) (hn : n ≤ 65536) : RX w.heap.size (fun b => X' b ∨ b = w1.heap.size) ab nb' mb (w1.alloc (.cells (madeCells #[.int .i64 0] (n + 1)) 28)) (.slice (some ⟨w1.heap.size, 0, none⟩) 0 (n + 1)) [] := by
  have la := h.en.st.ar.la
  have ln := h.en.st.xlt nb' h.en.st.ar.xn
  have lm := h.en.lm
  refine ⟨⟨by simp, Or.inr ⟨w1.heap.size, n + 1, _, rfl, h.ext.size, heap_new _ _, by simp, by unfold maxLen; omega, by simp [size_madeCells], by simp⟩⟩, fun g e => ?_⟩
  have : w1.heap.size = g := Option.some.inj e
  subst this
  exact ⟨Or.inr rfl, by omega, by omega, by omega⟩

def EtPost (ps : List Int) (t : Int) (X : Nat → Prop) (w : World) (eb mb ab nb : Nat) (lim : Int) (A : List Nd) (e : Ending) (w' : World) : Prop :=
  ∃ X' nb' A' v ev, GrX X w eb mb ab nb lim A X' w' nb' A' ∧ e = .returned (.tuple #[v, ev]) ∧ ((ev = .nilIface ∧ ∃ qs, RX w.heap.size X' ab nb' mb w' v qs ∧ Thens A' ps t qs) ∨ ((∃ t v, ev = .iface t v) ∧ v = .slice none 0 0 ∧ Fl lim A' w' ev))

theorem Pl.Thens.snoc {A : List Nd} {ps : List Int} {t : Int} {qs : List Int} {k : Nat} (hk : k < ps.length) (h : Thens A (ps.take k) t qs) {z : Int} (hz : Val A (concatN ps[k] t) z) : Thens A (ps.take (k + 1)) t (qs ++ [z]) := by
  have hl := h.1
  have hkl : (ps.take k).length = k := by simp; omega
  refine ⟨by simp [hl]; omega, fun i hi hi' => ?_⟩
  have hi2 : i < k + 1 := by simp at hi; omega
  by_cases e : i < k
  · have := h.2 i (by omega) (by omega)
    rw [List.getElem_append_left (by omega)]
    simpa using this
  · have ei : i = k := by omega
    subst ei
    have e1 : (qs ++ [z])[i]'hi' = z := by
      have : i = qs.length := by omega
      subst this
      simp
    rw [e1]
    simpa using hz

set_option maxHeartbeats 8000000 in
theorem eachThen_walk {X : Nat → Prop} {w : World} {eb mb ab nb : Nat} {lim : Int} (hlim : lim ≤ 65536) {A : List Nd} (hE : Es X w eb mb ab nb lim A) {pv : Value} {ps : List Int} (hp : Ints X w pv ps) (hpl : ps.length ≤ 65536) (hpv : ∀ p ∈ ps, Valid A p) {t : Int} (ht : Valid A t) :
    Calls Tryz.prog 144 #[.pointer (some ⟨eb, 0, none⟩), pv, .int .i64 t] w (EtPost ps t X w eb mb ab nb lim A) := by
  have HE := hideIt hE
  have Hp := hideIt hp
  have Hpv := hideIt hpv
  have Ht := hideIt ht
  have hmk := run_make_cap ps.length hpl
  obtain ⟨i0, hi0, hz0, hz1, hz2⟩ := info_parts info_id
  obtain ⟨pa, pc, rfl, _, _, _⟩ := hp
  have HG0 := hideIt ((GrX.refl hE).addNew (.cells (madeCells #[.int .i64 0] (ps.length + 1)) 28))
  have HR0 := hideIt (rx_made (GrX.refl hE) ps.length hpl)
  have Hp0 : Hid (Ints (fun b => X b ∨ b = w.heap.size) (w.alloc (.cells (madeCells #[.int .i64 0] (ps.length + 1)) 28)) (.slice pa ps.length pc) ps) := (Hp.out.more (fun b hb q => q.elim id (fun e => by omega))).below (alloc_below _) (Nat.le_refl _)
  have lm3 : mb + 3 < w.heap.size := by obtain ⟨_, _, m, _⟩ := hE.ax.pn; exact m.lt
  clear hE hpv ht
  go_enter Tryz.func144, Tryz.ntmps144
  go_wp2_with fail
  generalize w.alloc (.cells (madeCells #[.int .i64 0] (ps.length + 1)) 28) = w0 at *
  go_loopw [8, 19] (fun v i wr => ∃ (k : Nat) (qs : List Int) (X' : Nat → Prop) (nb' : Nat) (A' : List Nd), k ≤ ps.length ∧ i = .int .i64 k ∧ qs.length = k ∧ GrX X w eb mb ab nb lim A X' wr nb' A' ∧ RX w.heap.size X' ab nb' mb wr v qs ∧ Thens A' (ps.take k) t qs ∧ Ints X' wr (.slice pa ps.length pc) ps) (fun _ i _ => ps.length - (intOf i).toNat)
  case atStart => exact ⟨0, [], _, nb, A, by omega, rfl, rfl, HG0.out, HR0.out, ⟨by simp, fun i hi => by simp at hi⟩, Hp0.out⟩
  case round =>
    obtain ⟨k, qs, X', nb', A', hk, rfl, hql, hG, hR, hT, hI⟩ := hrel
    have HG := hideIt hG
    have HR := hideIt hR
    have HT := hideIt hT
    have HI := hideIt hI
    by_cases hlt : k < ps.length
    · have hlt' : (k : Int) < (ps.length : Int) := by omega
      obtain ⟨ad, cap', e, _, _, h3⟩ := hI
      cases e
      obtain ⟨g, o, rfl, _, hc⟩ := h3 (fun e => by rw [e] at hlt; cases hlt)
      have cu := hc k hlt
      have Hvp := hideIt (hG.le.valid (Hpv.out _ (List.getElem_mem hlt)))
      have Hsn : Hid (∀ (B : List Nd) (z : Int), Thens B (ps.take k) t qs → Val B (concatN ps[k] t) z → Thens B (ps.take (k + 1)) t (qs ++ [z])) := fun B z a b => Pl.Thens.snoc hlt a b
      generalize ps[k] = p at *
      obtain ⟨b1, b2, b3, he2⟩ := hG.en.eng
      have e0 := box_cell he2 0
      simp only [List.getElem?_toArray, List.getElem?_cons_zero] at e0
      have Hql := hideIt hql
      clear h3 hc hG hR hT hql he2
      go_wp2_with fail
      go_at_call 102
      refine (concat_walk HG.out.en.st hlim Hvp.out (HG.out.le.valid Ht.out)).mono ?_
      rintro e w1 ⟨X1, nb1, A1, z1, ev1, hg1, rfl, hh1⟩
      have hgx := (HG.out.en.grow hg1).toX HG.out.es
      have HG1 := hideIt (HG.out.trans hgx)
      have HR1 := hideIt (HR.out.grow lm3 hgx)
      have HI1 := hideIt (hgx.seq HG.out.es HI.out)
      have HT1 := hideIt (HT.out.le hgx.le)
      clear hg1 hgx e0 cu
      rcases hh1 with ⟨rfl, hv1⟩ | ⟨⟨t1, v1, rfl⟩, rfl, hf1⟩
      · have HT2 := hideIt (Hsn.out A1 z1 HT1.out hv1)
        clear hv1
        have hqk : qs.length ≤ 65536 := by have := Hql.out; omega
        have hbs : w.heap.size ≤ w1.heap.size := HG1.out.ext.size
        go_wp2_with (at_builtin; refine wpList_append_own_at _ rfl (.tmp 36) (.tmp 38) 37 rfl w.heap.size 28 i0 (.int .i64 0) 1 8 Tryz.underlying37 hi0 hz0 hz1 hz2 rfl (by decide) _ _ _ rfl (HR1.out.own.alloc _) ⟨w1.heap.size, 0, none⟩ 1 1 ([z1].map encI) rfl rfl (World.news_of_block (cs := #[.int .i64 z1]) (t := 28) (fr := (0, 0)) (heap_new _ _)) (one_ints _) (by unfold maxLen; omega) (by omega) (Nat.le_trans hbs (alloc_below _).size) ?_; intro v' w5 hown5 hgrow5 _ hloc5)
        have hown6 : w5.ownsRow w.heap.size 28 1 v' (qs ++ [z1]).length ((qs ++ [z1]).map encI) := by rw [List.length_append, List.map_append]; exact hown5
        obtain ⟨q1, q2, q3, q4⟩ := HG1.out.pushed HR1.out (alloc_below _) hgrow5 hloc5 hown6
        go_roundw
        case rel => exact ⟨k + 1, qs ++ [z1], _, nb1, A1, by omega, by go_num, by rw [List.length_append, Hql.out]; rfl, q1, q2, HT2.out, HI1.out.keepX q4 q3⟩
        case measure => simp [intOf]; omega
      · go_wp2_with fail
        go_ret2
        exact ⟨X1, nb1, A1, _, _, HG1.out, rfl, Or.inr ⟨⟨t1, v1, rfl⟩, rfl, hf1⟩⟩
    · obtain rfl : k = ps.length := by omega
      rw [List.take_length] at hT
      have HT2 := hideIt hT
      clear hG hR hT hI hql
      go_wp2_with fail
      go_ret2
      exact ⟨X', nb', A', _, _, HG.out, rfl, Or.inl ⟨rfl, qs, HR.out, HT2.out⟩⟩
end Go.Proofs.Qxb6500848aGreatDoor
