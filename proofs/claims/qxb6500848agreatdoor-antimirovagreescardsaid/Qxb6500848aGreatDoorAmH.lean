/-
  AntimirovAgrees: holds.
-/
import Derived.Test.Qxb6500848aGreatDoorAmX
namespace Go.Proofs.Qxb6500848aGreatDoor
open Go.RowKit Pl Go.Maps
set_option maxRecDepth 100000

/-- What holds rests on. -/
structure AH (kb eb mb ab : Nat) (lim : Int) (regs : List Int) (ad : Addr) (bm bw : Nat) (wv : Value) (us : List Value) (X : Nat → Prop) (w : World) (nb : Nat) (A : List Nd) : Prop where
  md : MD kb eb mb ab lim regs ad X w nb A
  m0 : w.heap[bm]? = some (.cells #[.pointer (some ⟨kb, 0, none⟩)] 27 (0, 0))
  xm : ¬ X bm
  w0 : w.heap[bw]? = some (.cells #[wv] 74 (0, 0))
  xw : ¬ X bw
  lw : LW X w wv us

section
variable {kb eb mb ab : Nat} {lim : Int} {regs : List Int} {ad : Addr} {bm bw : Nat} {wv : Value} {us : List Value} {X X' : Nat → Prop} {w w' : World} {nb nb' : Nat} {A A' : List Nd}
theorem AH.step (h : AH kb eb mb ab lim regs ad bm bw wv us X w nb A) (g : GrX X w eb mb ab nb lim A X' w' nb' A') : AH kb eb mb ab lim regs ad bm bw wv us X' w' nb' A' :=
  ⟨h.md.step g, g.block h.md.es h.m0 h.xm, fun x => h.xm ((g.sub _ (heap_lt h.m0)).1 x), g.block h.md.es h.w0 h.xw, fun x => h.xw ((g.sub _ (heap_lt h.w0)).1 x), h.lw.growX g h.md.es⟩
theorem AH.below (h : AH kb eb mb ab lim regs ad bm bw wv us X w nb A) (k : Below w.heap.size w w') : AH kb eb mb ab lim regs ad bm bw wv us X w' nb A := h.step ((GrX.refl h.md.es).below k)
theorem AH.facts (h : AH kb eb mb ab lim regs ad bm bw wv us X w nb A) : w.cell? ⟨bm, 0, none⟩ = some (.pointer (some ⟨kb, 0, none⟩)) ∧ w.cell? ⟨bw, 0, none⟩ = some wv ∧ w.cell? ⟨kb, 0, none⟩ = some (.pointer (some ⟨ab, 0, none⟩)) ∧ w.cell? ⟨kb, 1, none⟩ = some (.pointer (some ⟨eb, 0, none⟩)) := by
  obtain ⟨_, h0, h1, _, _⟩ := h.md.mc.cells
  exact ⟨box_cell h.m0 0, box_cell h.w0 0, h0, h1⟩
end

def DbPost (c x : Int) (X : Nat → Prop) (w : World) (eb mb ab nb : Nat) (lim : Int) (A : List Nd) (e : Ending) (w' : World) : Prop :=
  ∃ X' nb' A' z ev, GrX X w eb mb ab nb lim A X' w' nb' A' ∧ e = .returned (.tuple #[.int .i64 z, ev]) ∧ ((ev = .nilIface ∧ Valid A' z ∧ (∀ u, (Alph u ∧ lang A' z u) ↔ (Alph (c :: u) ∧ lang A' x (c :: u))) ∧ PlainR A' z ∧ lv A' z ≤ lv A x * (1 + dp A x) ∧ dp A' z ≤ dp A x + 1) ∨ ((∃ t v, ev = .iface t v) ∧ lim ≤ A'.length))

set_option maxHeartbeats 1000000 in
theorem Deriv_pl {X : Nat → Prop} {w : World} {eb mb ab nb : Nat} {lim : Int} (hlim : lim ≤ 65536) {A : List Nd} (hE : Es X w eb mb ab nb lim A) (c : Int) {x : Int} (hx : Valid A x) (hp : PlainR A x) :
    Calls Tryz.prog 25 #[.pointer (some ⟨eb, 0, none⟩), .int .i64 x, .int .i64 c] w (DbPost c x X w eb mb ab nb lim A) := by
  by_cases hc : 0 ≤ c ∧ c ≤ 196607
  · refine (Deriv_walk hlim hE.en hx).mono ?_
    rintro e w' ⟨X', nb', A', z, ev, h1, h2, h3⟩
    have hg := h1.toX hE
    refine ⟨X', nb', A', z, ev, hg, h2, ?_⟩
    rcases h3 with ⟨q1, q2, q3, q4⟩ | ⟨q1, _, q3⟩
    · have hd := q4 hc
      have hx' := hg.le.valid hx
      have hp' := (PlainR.le hE.en.st.ar.wf hg.le hx).2 hp
      have hl := hd.leaves hg.en.st.ar.wf hx' hp'
      have e1 := lv_le hE.en.st.ar.wf hg.en.st.ar.wf hg.le _ x rfl hx
      have e2 := dp_le hE.en.st.ar.wf hg.en.st.ar.wf hg.le _ x rfl hx
      rw [e1, e2] at hl
      exact Or.inl ⟨q1, q2, q3, hd.plain hg.en.st.ar.wf hx' hp', hl.1, hl.2⟩
    · exact Or.inr ⟨q1, q3⟩
  · have Hdc : Hid (decide (0 ≤ c ∧ c ≤ 196607) = false) := decide_eq_false hc
    have h0 := lv0 hE.en.st.ar.wf
    have HP : Hid (DbPost c x X w eb mb ab nb lim A (.returned (.tuple #[.int .i64 0, .nilIface])) w) := ⟨X, nb, A, 0, _, GrX.refl hE, rfl, Or.inl ⟨rfl, hE.en.st.ar.wf.v0, (fun u => by
      rw [lang0 hE.en.st.ar.wf]
      exact ⟨fun h => h.2.elim, fun h => absurd (h.1 c (List.mem_cons_self ..)) hc⟩), plain0 hE.en.st.ar.wf, by rw [h0.1]; exact Nat.zero_le _, by rw [h0.2]; exact Nat.zero_le _⟩⟩
    clear hE hx hp hc h0
    go_enter Tryz.func25, Tryz.ntmps25
    go_wp2_with (go_at_call 79; refine (inAlphabet_walk c _).mono ?_; rintro e w2 ⟨rfl, hw2⟩; obtain rfl := hw2.symm; rw [Hdc.out])
    go_ret2
    exact HP.out

def HoPost (x : Int) (X : Nat → Prop) (w : World) (eb mb ab nb : Nat) (lim : Int) (A : List Nd) (e : Ending) (w' : World) : Prop :=
  ∃ X' nb' A' d b, GrX X w eb mb ab nb lim A X' w' nb' A' ∧ e = .returned (.tuple #[.int .i64 d, .bool b]) ∧ ((b = true ∧ Valid A' d ∧ PlainR A' d ∧ lv A' d ≤ lv A x * (1 + dp A x) ∧ dp A' d ≤ dp A x + 1) ∨ (b = false ∧ lim ≤ A'.length))

/-- Both sides say the same of a word. -/
theorem same_words {A : List Nd} (hA : Wf A) {c x z : Int} {l : List Int} (hx : Valid A x) (hq : ∀ u, (Alph u ∧ lang A z u) ↔ (Alph (c :: u) ∧ lang A x (c :: u))) (hl : (0 ≤ c ∧ c ≤ 196607) ∧ Par A c x l ∨ ¬ (0 ≤ c ∧ c ≤ 196607) ∧ l = []) (u : Word) : (∃ p ∈ l, Alph u ∧ lang A p u) ↔ (Alph u ∧ lang A z u) := by
  rw [hq u]
  rcases hl with ⟨hc, hp⟩ | ⟨hc, rfl⟩
  · constructor
    · rintro ⟨p, hpl, hu, h⟩
      exact ⟨(fun d hd => by rcases List.mem_cons.1 hd with rfl | hd; exact hc; exact hu d hd), (hp.quot hA hx u hu).1 ⟨p, hpl, h⟩⟩
    · rintro ⟨hu, h⟩
      obtain ⟨p, hpl, h⟩ := (hp.quot hA hx u hu.tail).2 h
      exact ⟨p, hpl, hu.tail, h⟩
  · constructor
    · rintro ⟨p, hpl, _⟩; cases hpl
    · rintro ⟨hu, _⟩; exact absurd (hu c (List.mem_cons_self ..)) hc

set_option maxHeartbeats 16000000 in
theorem holdsA_walk {kb eb mb ab : Nat} {lim : Int} {regs : List Int} {ad : Addr} {bm bw : Nat} {wv : Value} {us : List Value} {X : Nat → Prop} {w : World} {nb : Nat} {A : List Nd} (h : AH kb eb mb ab lim regs ad bm bw wv us X w nb A) (hlim : lim ≤ 65536) (hus : us.length ≤ 10000000) {x : Int} (hx : Valid A x) (hp : PlainR A x) (hlv : lv A x ≤ 1000000000) (c : Int) :
    Calls Tryz.prog 37 #[.int .i64 x, .int .i64 c, .pointer (some ⟨bm, 0, none⟩), .pointer (some ⟨bw, 0, none⟩)] w (HoPost x X w eb mb ab nb lim A) := by
  have H := hideIt h
  have Hx := hideIt hx
  have Hp := hideIt hp
  obtain ⟨xa, xc, rfl, _, _, _⟩ := h.lw.1
  obtain ⟨f1, f2, f3, f4⟩ := h.facts
  clear h hx hp
  go_enter Tryz.func37, Tryz.ntmps37
  go_wp2_with fail
  go_at_call 31
  refine (Partial_any hlim H.out.md.es c Hx.out Hp.out).mono ?_
  rintro e w1 ⟨X1, nb1, A1, v1, ev1, hg1, rfl, hh1⟩
  have H1 := hideIt (H.out.step hg1)
  have HG1 := hideIt hg1
  have Hx1 := hideIt (hg1.le.valid Hx.out)
  have Hp1 := hideIt ((PlainR.le H.out.md.es.en.st.ar.wf hg1.le Hx.out).2 Hp.out)
  have elv1 := lv_le H.out.md.es.en.st.ar.wf hg1.en.st.ar.wf hg1.le _ x rfl Hx.out
  have edp1 := dp_le H.out.md.es.en.st.ar.wf hg1.en.st.ar.wf hg1.le _ x rfl Hx.out
  have Helv1 := hideIt elv1
  have Hedp1 := hideIt edp1
  obtain ⟨g1, g2, g3, g4⟩ := H1.out.facts
  clear hg1 f1 f2 f3 f4 elv1 edp1
  rcases hh1 with ⟨rfl, l, hI, hnz, hpl⟩ | ⟨⟨t1, u1, rfl⟩, hf1⟩
  · have HI := hideIt hI
    have Hnz := hideIt hnz
    have Hpl := hideIt hpl
    obtain ⟨na, nc, rfl, _, _, _⟩ := hI
    clear hnz hpl
    go_wp2_with fail
    go_at_call 25
    refine (Deriv_pl hlim H1.out.md.es c Hx1.out Hp1.out).mono ?_
    rintro e w2 ⟨X2, nb2, A2, z, ev2, hg2, rfl, hh2⟩
    have H2 := hideIt (H1.out.step hg2)
    have HG2 := hideIt (HG1.out.trans hg2)
    have HI2 := hideIt (hg2.seq H1.out.md.es HI.out)
    have Hx2 := hideIt (hg2.le.valid Hx1.out)
    have Hp2 := hideIt ((PlainR.le H1.out.md.es.en.st.ar.wf hg2.le Hx1.out).2 Hp1.out)
    have hpl2 : (0 ≤ c ∧ c ≤ 196607) ∧ Par A2 c x l ∨ ¬ (0 ≤ c ∧ c ≤ 196607) ∧ l = [] := Hpl.out.imp (fun q => ⟨q.1, q.2.le H1.out.md.es.en.st.ar.wf hg2.en.st.ar.wf hg2.le Hx1.out⟩) id
    have Hpl2 := hideIt hpl2
    have elv2 := lv_le H1.out.md.es.en.st.ar.wf hg2.en.st.ar.wf hg2.le _ x rfl Hx1.out
    have hlv2 : lv A2 x ≤ 1000000000 := by rw [elv2, Helv1.out]; exact hlv
    have Hfc : Hid (l.Pairwise (· < ·) ∧ (∀ q ∈ l, q ≠ 0) ∧ l.length ≤ lv A2 x) := by
      rcases hpl2 with ⟨_, q⟩ | ⟨_, q⟩
      · exact q.facts hg2.en.st.ar.wf Hx2.out
      · rw [q]; exact ⟨List.Pairwise.nil, (fun q hq => by cases hq), Nat.zero_le _⟩
    have Hlv2 := hideIt hlv2
    obtain ⟨g1, g2, g3, g4⟩ := H2.out.facts
    clear hg2 hpl2 elv2
    rcases hh2 with ⟨rfl, hzv, hq, hzp, hzl, hzd⟩ | ⟨⟨t2, u2, rfl⟩, hf2⟩
    · have Hzv := hideIt hzv
      have Hsw := hideIt (fun u => same_words H2.out.md.es.en.st.ar.wf Hx2.out hq Hpl2.out u)
      have Hzp := hideIt hzp
      have Hzl : Hid (lv A2 z ≤ lv A x * (1 + dp A x)) := by rw [Helv1.out, Hedp1.out] at hzl; exact hzl
      have Hzd : Hid (dp A2 z ≤ dp A x + 1) := by rw [Hedp1.out] at hzd; exact hzd
      clear hzv hq hzp hzl hzd
      go_wp2_with fail
      go_at_call 35
      refine (Plain_walk _ x rfl _ H2.out.md.es Hx2.out).mono ?_
      rintro e w3 ⟨b3, rfl, hb3, hg3⟩
      have eb3 := hb3.2 Hp2.out
      subst eb3
      have H3 := hideIt (H2.out.step hg3)
      have HG3 := hideIt (HG2.out.trans hg3)
      have HI3 := hideIt (hg3.seq H2.out.md.es HI2.out)
      obtain ⟨g1, g2, g3, g4⟩ := H3.out.facts
      obtain ⟨N, hN⟩ : ∃ N, N = lv A2 x := ⟨_, rfl⟩
      have HN := hideIt hN
      have hN1 : N ≤ 1000000000 := by rw [hN]; exact Hlv2.out
      have hN2 : ¬ ((N : Int) + 1 < (l.length : Int)) := by have := Hfc.out.2.2; omega
      clear hb3 hg3 hN
      go_wp2_with fail
      go_at_call 38
      refine (leaves_walk _ x rfl _ H3.out.md.es.en.st (H3.out.facts).2.2.1 Hx2.out Hlv2.out).mono ?_
      rintro e w4 ⟨rfl, hb4⟩
      rw [← HN.out]
      have H4 := hideIt (H3.out.below hb4)
      have HG4 := hideIt (HG3.out.below hb4)
      have HI4 := hideIt (HI3.out.below hb4 (Nat.le_refl _))
      clear hb4
      have hll : l.length ≤ 65536 := by
        rcases Hpl2.out with ⟨_, q⟩ | ⟨_, q⟩
        · have h1 := q.len H2.out.md.es.en.st.ar.wf Hx2.out
          have h2 := H2.out.md.es.en.st.ar.len
          omega
        · rw [q]; simp
      go_wp2_with fail
      go_at_call 39
      refine (isSet_walk HI4.out Hnz.out hll Hfc.out.1 Hfc.out.2.1).mono ?_
      rintro e w5 ⟨rfl, hb5⟩
      have H5 := hideIt (H4.out.below hb5)
      have HG5 := hideIt (HG4.out.below hb5)
      have HI5 := hideIt (HI4.out.below hb5 (Nat.le_refl _))
      obtain ⟨g1, g2, g3, g4⟩ := H5.out.facts
      have Hval : Hid (∀ p ∈ l, Valid A2 p) := fun p hp => by
        rcases Hpl2.out with ⟨_, q⟩ | ⟨_, q⟩
        · exact q.valid H2.out.md.es.en.st.ar.wf Hx2.out p hp
        · rw [q] at hp; cases hp
      clear hb5
      go_wp2_with fail
      go_loopw [65] (fun i wr => ∃ (k : Nat), k ≤ us.length ∧ i = .int .i64 k ∧ Below w5.heap.size w5 wr) (fun i _ => us.length - (intOf i).toNat)
      case atStart => exact ⟨0, by omega, rfl, Below.refl _ _⟩
      case round =>
        obtain ⟨k, hk, rfl, hb⟩ := hrel
        have HB := hideIt hb
        have H6 := hideIt (H5.out.below hb)
        have HI6 := hideIt (HI5.out.below hb (Nat.le_refl _))
        obtain ⟨g1, g2, g3, g4⟩ := H6.out.facts
        by_cases hlt : k < us.length
        · have hlt' : (k : Int) < (us.length : Int) := by omega
          obtain ⟨a4, c4, e4, _, _, h4⟩ := H6.out.lw.1
          cases e4
          obtain ⟨g4', o4, rfl, _, hc4⟩ := h4 (fun e => by rw [e] at hlt; cases hlt)
          have ck := hc4 k hlt
          have hW := H6.out.lw.2 _ (List.getElem_mem hlt)
          generalize us[k] = u at *
          obtain ⟨wd1, hl1, hi1, hz1⟩ := hW
          have Hi1 := hideIt hi1
          obtain ⟨ua, uc, rfl, _, _, _⟩ := hi1
          have hl2 : wd1.length ≤ 1000 := by omega
          have lbm := heap_lt H6.out.m0
          have lkb := H6.out.md.mc.lk
          have KP : Hid (∀ W : World, Below wr.heap.size wr W → W.cell? ⟨bm, 0, none⟩ = some (.pointer (some ⟨kb, 0, none⟩)) ∧ W.cell? ⟨kb, 0, none⟩ = some (.pointer (some ⟨ab, 0, none⟩))) := fun W hW => ⟨(hW.cell (p := ⟨bm, 0, none⟩) lbm).trans g1, (hW.cell (p := ⟨kb, 0, none⟩) lkb).trans g3⟩
          have HSM : Hid (∀ W : World, Below wr.heap.size wr W → Calls Tryz.prog 40 #[.pointer (some ⟨kb, 0, none⟩), .slice na l.length nc, .slice ua wd1.length uc] W (Says (∃ p ∈ l, Alph wd1 ∧ lang A2 p wd1) W)) := fun W hW => some_walk ((H6.out.below hW).md.es.en.st) (KP.out W hW).2 (HI6.out.below hW (Nat.le_refl _)) hll Hval.out (Hi1.out.below hW (Nat.le_refl _)) hl2
          have HHS : Hid (∀ W : World, Below wr.heap.size wr W → Calls Tryz.prog 41 #[.pointer (some ⟨ab, 0, none⟩), .int .i64 z, .slice ua wd1.length uc] W (Says (Alph wd1 ∧ lang A2 z wd1) W)) := fun W hW => has_walk ((H6.out.below hW).md.es.en.st) (Hi1.out.below hW (Nat.le_refl _)) hl2 Hzv.out
          have Hsw1 := hideIt (Hsw.out wd1)
          clear h4 hc4 hb hz1
          go_wp2_with fail
          go_region_held3 (fun w' => w'.cell? ⟨bm, 0, none⟩ = some (.pointer (some ⟨kb, 0, none⟩)) ∧ w'.cell? ⟨kb, 0, none⟩ = some (.pointer (some ⟨ab, 0, none⟩))) (first | (exact KP.out _ hbR1) | (exact KP.out _ hbR2) | go_keep)
            (first
              | (go_at_call 40; refine (HSM.out _ hbR2).mono ?_; rintro e wS ⟨bS, rfl, hbS, hBS⟩; have hbR1 := hbR2.trans (hBS.mono hbR2.size))
              | (go_at_call 40; have hbQ : Below wr.heap.size wr wr.drew := below_d _; refine (HSM.out _ hbQ).mono ?_; rintro e wS ⟨bS, rfl, hbS, hBS⟩; have hbR1 := hbQ.trans (hBS.mono hbQ.size))
              | (go_at_call 41; refine (HHS.out _ hbR1).mono ?_; rintro e wH ⟨bH, rfl, hbH, hBH⟩; have hbR2 := hbR1.trans (hBH.mono hbR1.size))
              | (go_at_call 41; have hbQ : Below wr.heap.size wr wr.drew := below_d _; refine (HHS.out _ hbQ).mono ?_; rintro e wH ⟨bH, rfl, hbH, hBH⟩; have hbR2 := hbQ.trans (hBH.mono hbQ.size)))
          all_goals (have ebb : bS = bH := Bool.eq_iff_iff.2 (hbS.trans (Hsw1.out.trans hbH.symm)))
          all_goals subst ebb
          all_goals clear hbS hbH hBS hBH
          all_goals cases bS
          all_goals go_wp2_with fail
          all_goals go_roundw
          all_goals first | exact ⟨k + 1, by omega, by go_num, HB.out.trans (hbR2.mono HB.out.size)⟩ | exact ⟨k + 1, by omega, by go_num, HB.out.trans (hbR1.mono HB.out.size)⟩ | (simp [intOf]; done) | (simp [intOf]; omega)
        · obtain rfl : k = us.length := by omega
          have HP : Hid (HoPost x X w eb mb ab nb lim A (.returned (.tuple #[.int .i64 z, .bool true])) wr) := ⟨X2, nb2, A2, z, true, HG5.out.below HB.out, rfl, Or.inl ⟨rfl, Hzv.out, Hzp.out, Hzl.out, Hzd.out⟩⟩
          clear hb
          go_wp2_with fail
          go_ret2
          exact HP.out
    · have HP : Hid (HoPost x X w eb mb ab nb lim A (.returned (.tuple #[.int .i64 z, .bool false])) w2) := ⟨X2, nb2, A2, z, false, HG2.out, rfl, Or.inr ⟨rfl, hf2⟩⟩
      clear hf2
      go_wp2_with fail
      go_ret2
      exact HP.out
  · have Hf1 := hideIt hf1
    clear hf1
    go_wp2_with fail
    go_at_call 25
    refine (Deriv_pl hlim H1.out.md.es c Hx1.out Hp1.out).mono ?_
    rintro e w2 ⟨X2, nb2, A2, z, ev2, hg2, rfl, hh2⟩
    have hf2 : lim ≤ A2.length := by have h1 := Hf1.out; have h2 := hg2.le.length; omega
    have HP : Hid (HoPost x X w eb mb ab nb lim A (.returned (.tuple #[.int .i64 z, .bool false])) w2) := ⟨X2, nb2, A2, z, false, HG1.out.trans hg2, rfl, Or.inr ⟨rfl, hf2⟩⟩
    have H2 := hideIt (H1.out.step hg2)
    obtain ⟨g1, g2, g3, g4⟩ := H2.out.facts
    clear hg2 hh2 hf2
    go_wp2_with fail
    go_ret2
    exact HP.out
end Go.Proofs.Qxb6500848aGreatDoor
