/-
  Matches.
-/
import Derived.Test.Qxb6500848aGreatDoorEdgeW
import Derived.Test.Qxb6500848aGreatDoorPlW
import Derived.Test.Qxb6500848aGreatDoorSameA
namespace Go.Proofs.Qxb6500848aGreatDoor
open Go.RowKit Pl Go.Maps
set_option maxRecDepth 100000

def MtPost (wd : Word) (x : Int) (X : Nat → Prop) (w : World) (eb mb ab nb : Nat) (lim : Int) (A : List Nd) (e : Ending) (w' : World) : Prop :=
  ∃ X' nb' A' b ev, GrX X w eb mb ab nb lim A X' w' nb' A' ∧ e = .returned (.tuple #[.bool b, ev]) ∧ ((ev = .nilIface ∧ (b = true ↔ Alph wd ∧ lang A' x wd)) ∨ ((∃ t v, ev = .iface t v) ∧ b = false ∧ Fl lim A' w' ev))

theorem QuotW.next {A : List Nd} {wd : Word} {x z d c : Int} {k : Nat} (hk : k < wd.length) (hc : wd[k] = c) (h : QuotW A (wd.take k) x z) (hca : 0 ≤ c ∧ c ≤ 196607) (hq : Quot A c z d) : QuotW A (wd.take (k + 1)) x d := fun u => by
  have e : wd.take (k + 1) = wd.take k ++ [c] := by rw [List.take_succ_eq_append_getElem hk, hc]
  have e1 : (Alph u ∧ lang A d u) ↔ (Alph (c :: u) ∧ lang A z (c :: u)) := by
    constructor
    · rintro ⟨h1, h2⟩
      exact ⟨fun q hq' => by
        rcases List.mem_cons.1 hq' with rfl | hq'
        · exact hca
        · exact h1 q hq', (hq.2 u h1).1 h2⟩
    · rintro ⟨h1, h2⟩
      exact ⟨h1.tail, (hq.2 u h1.tail).2 h2⟩
  rw [e1, h (c :: u), e]
  simp

set_option maxHeartbeats 8000000 in
theorem Matches_walk {X : Nat → Prop} {w : World} {eb mb ab nb : Nat} {lim : Int} (hlim : lim ≤ 65536) {A : List Nd} (hE : Es X w eb mb ab nb lim A) (hg : Gd tabC w) (hw0 : 3 < w.heap.size) {x : Int} (hx : Valid A x) {wv : Value} {wd : Word} (hw : Ints X w wv wd) (hwl : wd.length ≤ 1000) :
    Calls Tryz.prog 55 #[.pointer (some ⟨eb, 0, none⟩), .int .i64 x, wv] w (MtPost wd x X w eb mb ab nb lim A) := by
  have HE := hideIt hE
  have Hg := hideIt hg
  have Hx := hideIt hx
  have Hw := hideIt hw
  have Hw0 := hideIt hw0
  obtain ⟨wa, wc, rfl, _, _, _⟩ := hw
  clear hE hg hx hw0
  go_enter Tryz.func55, Tryz.ntmps55
  go_wp2_with fail
  go_at_call 18
  refine (Cut_walk HE.out Hg.out Hw0.out Hx.out).mono ?_
  rintro e w1 ⟨tb, P, rfl, hct, hic, hl, hg1⟩
  have HG1 := hideIt hg1
  have HCt := hideIt hct
  have HIC := hideIt hic
  have Hw1 := hideIt (hg1.seq HE.out Hw.out)
  clear hct hic hg1
  go_wp2_with fail
  go_loopw [1, 20] (fun rv i wr => ∃ (k : Nat) (z : Int) (X' : Nat → Prop) (nb' : Nat) (A' : List Nd), k ≤ wd.length ∧ i = .int .i64 k ∧ rv = .int .i64 z ∧ GrX X w eb mb ab nb lim A X' wr nb' A' ∧ Valid A' z ∧ QuotW A' (wd.take k) x z ∧ CutAt X' wr tb P ∧ IsCut tabC A' x P ∧ (∀ l, Cs A' z l → Cs A' x l) ∧ Ints X' wr (.slice wa wd.length wc) wd) (fun _ i _ => wd.length - (intOf i).toNat)
  case atStart => exact ⟨0, x, X, nb, A, by omega, rfl, rfl, HG1.out, Hx.out, fun u => by simp, HCt.out, HIC.out, fun _ h => h, Hw1.out⟩
  case round =>
    obtain ⟨k, z, X', nb', A', hk, rfl, rfl, hG, hz, hQ, hct, hic, hcs, hI⟩ := hrel
    have HG := hideIt hG
    have Hz := hideIt hz
    have HQ := hideIt hQ
    have HC := hideIt hct
    have Hic := hideIt hic
    have Hcs := hideIt hcs
    have HI := hideIt hI
    have Hxv := hideIt (hG.le.valid Hx.out)
    by_cases hlt : k < wd.length
    · have hlt' : (k : Int) < (wd.length : Int) := by omega
      obtain ⟨ad, cap', e, _, _, h3⟩ := hI
      cases e
      obtain ⟨g, o, rfl, _, hc⟩ := h3 (fun e => by rw [e] at hlt; cases hlt)
      have cu := hc k hlt
      have Hin : Hid (wd[k] ∈ wd) := List.getElem_mem hlt
      have Hnx : Hid (∀ (B : List Nd) (d : Int), QuotW B (wd.take k) x z → (0 ≤ wd[k] ∧ wd[k] ≤ 196607) → Quot B wd[k] z d → QuotW B (wd.take (k + 1)) x d) := fun B d h1 h2 h3 => QuotW.next hlt rfl h1 h2 h3
      have Hdrop : Hid (wd.take (k + 1) ++ wd.drop (k + 1) = wd) := List.take_append_drop _ _
      generalize wd[k] = c at *
      have Hix := hideIt (Index_walk HC.out Hic.out hl c)
      clear h3 hc hG hz hQ hct hic hcs HG1 HCt HIC Hw1
      go_wp2_with fail
      go_at_call 26
      refine Hix.out.mono ?_
      rintro e w2 ⟨hw2, hh⟩
      obtain rfl := hw2.symm
      clear Hix
      rcases hh with ⟨hno, rfl⟩ | ⟨hca, b, hb1, hb2, rfl⟩
      · have Hno : Hid (¬ (Alph wd ∧ lang A' x wd)) := fun h => hno (h.1 c Hin.out)
        clear hno
        go_wp2_with fail
        go_ret2
        exact ⟨X', nb', A', false, _, HG.out, rfl, Or.inl ⟨rfl, ⟨fun h => (by cases h), fun h => (Hno.out h).elim⟩⟩⟩
      · obtain ⟨bg, bo, bc', rg, ro, rc', pv2, q0, q1, q2, hpw2, q3⟩ := Pl.CutAt_at HC.out hb1
        have Hrep := hideIt (Hic.out.rep hb1)
        have hb1' : (b : Int) < (P.length : Int) := by omega
        have Hca := hideIt hca
        have Hag : Hid (∀ (B : List Nd), Le A' B → Wf B → Agree B (minF tabC P[b]) c z) := fun B hle hB => (Hic.out.le HG.out.en.st.ar.wf hle Hxv.out).agree2 (fun l hl' => (Cs.le HG.out.en.st.ar.wf hle Hxv.out).2 (Hcs.out l ((Cs.le HG.out.en.st.ar.wf hle Hz.out).1 hl'))) (List.getElem_mem hb1) (Hic.out.rep hb1).2 (by rw [getD_lt hb1] at hb2; exact hb2)
        clear hb2 hpw2 q2 hca
        generalize hmn : minF tabC P[b] = mn at *
        clear hmn
        go_wp2_with fail
        go_at_call 75
        refine (deriv_walk Hrep.out.1 hlim _ z rfl X' _ nb' A' HG.out.en Hz.out).mono ?_
        rintro e w3 ⟨X3, nb3, A3, d, ev3, hg3, rfl, hh3⟩
        have hgx := hg3.toX HG.out.es
        have HG3 := hideIt (HG.out.trans hgx)
        have HC3 := hideIt (hgx.cut HG.out.es HC.out)
        have HI3 := hideIt (hgx.seq HG.out.es HI.out)
        have Hic3 := hideIt (Hic.out.le HG.out.en.st.ar.wf hgx.le Hxv.out)
        rcases hh3 with ⟨rfl, hd3⟩ | ⟨⟨t3, v3, rfl⟩, rfl, hf3⟩
        · have hzv := hgx.le.valid Hz.out
          have hdc : Der A3 c z d := hd3.agree hg3.en.st.ar.wf hzv (Hag.out A3 hgx.le hg3.en.st.ar.wf)
          have hqd := hdc.quot hg3.en.st.ar.wf hzv
          have hQ3 : QuotW A3 (wd.take k) x z := fun u => by
            have e1 : lang A3 z = lang A' z := hgx.le.lang HG.out.en.st.ar.wf hg3.en.st.ar.wf Hz.out
            have e2 : lang A3 x = lang A' x := hgx.le.lang HG.out.en.st.ar.wf hg3.en.st.ar.wf Hxv.out
            rw [e1, e2]
            exact HQ.out u
          have HQd := hideIt (Hnx.out A3 d hQ3 Hca.out hqd)
          have Hvd := hideIt hqd.1
          have Hcd : Hid (∀ l, Cs A3 d l → Cs A3 x l) := fun l hl' => (Cs.le HG.out.en.st.ar.wf hgx.le Hxv.out).2 (Hcs.out l ((Cs.le HG.out.en.st.ar.wf hgx.le Hz.out).1 (hdc.cs hg3.en.st.ar.wf hzv hl')))
          have Hl0 : Hid (lang A3 0 = fun _ => False) := lang0 hg3.en.st.ar.wf
          clear hg3 hgx hd3 hzv hdc hqd hQ3 HG HC HI HQ Hz Hcs Hic
          by_cases h0 : d = 0
          · have bd : (d == 0) = true := by rw [h0]; rfl
            have Hno : Hid (¬ (Alph wd ∧ lang A3 x wd)) := fun h => by
              have := (HQd.out (wd.drop (k + 1))).2 (by rw [Hdrop.out]; exact h)
              rw [h0, Hl0.out] at this
              exact this.2
            go_wp2_with fail
            go_ret2
            exact ⟨X3, nb3, A3, false, _, HG3.out, rfl, Or.inl ⟨rfl, ⟨fun h => (by cases h), fun h => (Hno.out h).elim⟩⟩⟩
          · have bd : (d == 0) = false := by rw [beq_eq_false_iff_ne]; exact h0
            clear h0
            go_wp2_with fail
            go_roundw
            case rel => exact ⟨k + 1, d, X3, nb3, A3, by omega, by go_num, rfl, HG3.out, Hvd.out, HQd.out, HC3.out, Hic3.out, Hcd.out, HI3.out⟩
            case measure => simp [intOf]; omega
        · clear hg3 hgx
          go_wp2_with fail
          go_ret2
          exact ⟨X3, nb3, A3, false, _, HG3.out, rfl, Or.inr ⟨⟨t3, v3, rfl⟩, rfl, hf3⟩⟩
    · obtain rfl : k = wd.length := by omega
      obtain ⟨b1, b2, b3, he2⟩ := hG.en.eng
      have e0 := box_cell he2 0
      simp only [List.getElem?_toArray, List.getElem?_cons_zero] at e0
      rw [List.take_length] at hQ
      have hQn := hQ []
      rw [List.append_nil] at hQn
      have HQn := hideIt hQn
      clear hG hz hQ hct hic hcs hI HG1 HCt HIC Hw1 he2 hQn
      go_wp2_with (go_at_call 86; refine (nullable_walk HG.out.en.st Hz.out).mono ?_; rintro e w2 ⟨b, rfl, hb, hB⟩)
      go_ret2
      exact ⟨X', nb', A', b, _, HG.out.below hB, rfl, Or.inl ⟨rfl, hb.trans ⟨fun h => HQn.out.1 ⟨alph_nil, h⟩, fun h => (HQn.out.2 h).2⟩⟩⟩
end Go.Proofs.Qxb6500848aGreatDoor
