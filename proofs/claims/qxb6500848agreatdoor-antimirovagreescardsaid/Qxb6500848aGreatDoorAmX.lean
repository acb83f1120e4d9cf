/-
  isSet; Partial and PartialStates where they refuse.
-/
import Derived.Test.Qxb6500848aGreatDoorAmW
namespace Go.Proofs.Qxb6500848aGreatDoor
open Go.RowKit Pl Go.Maps Go.Sort Go.Shelf Go.Lib
set_option maxRecDepth 100000

theorem compact_keeps {l : List Int} (h : l.Pairwise (· < ·)) : (Lib.compact l).length = l.length := by
  have h1 := compact_len l
  have h2 := nodup_sub (m := Lib.compact l) (rising_nodup h) (fun x hx => (mem_compact l x).2 hx)
  omega

set_option maxHeartbeats 4000000 in
theorem isSet_walk {X : Nat → Prop} {w : World} {v : Value} {l : List Int} (h : Ints X w v l) (hz : Nz v) (hl : l.length ≤ 65536) (hr : l.Pairwise (· < ·)) (h0 : ∀ q ∈ l, q ≠ 0) :
    Calls Tryz.prog 39 #[v] w fun e w' => e = .returned (.bool true) ∧ Below w.heap.size w w' := by
  have Hi := hideIt h
  have Hz := hideIt hz
  have Hr := hideIt hr
  have hcn : l.contains 0 = false := by
    rw [Bool.eq_false_iff]
    intro e
    exact h0 0 (List.contains_iff_mem.1 e) rfl
  have Hcn := hideIt hcn
  have Hs := hideIt (sorted_walk h hl hr)
  have Hck := hideIt (compact_keeps hr)
  obtain ⟨ad, cap, rfl, _, _, _⟩ := h
  clear hz hr h0 hcn
  go_enter Tryz.func39, Tryz.ntmps39
  go_wp2_with fail
  go_at_call 88
  refine Hs.out.mono ?_
  rintro e w1 ⟨rfl, hb1⟩
  have HB1 := hideIt hb1
  have Hi1 := hideIt (Hi.out.below hb1 (Nat.le_refl _))
  clear hb1 Hs
  go_wp2_with fail
  go_at_call 84
  refine (Clone_own Hi1.out Hz.out hl).mono ?_
  rintro e w2 ⟨v2, rfl, hb2, hh2⟩
  have HB2 := hideIt (HB1.out.trans (hb2.mono HB1.out.size))
  have Hi2 := hideIt (Hi1.out.below hb2 (Nat.le_refl _))
  have sz2 : w.heap.size ≤ w1.heap.size := HB1.out.size
  clear hb2
  rcases hh2 with ⟨rfl, a, c, rfl⟩ | ⟨hne, hown⟩
  · go_wp2_with (first
      | (go_at_call 89; refine (AnyG.slices_Compact_int_empty Tryz.lCompact a c _).mono ?_; rintro e w3 ⟨rfl, hw3⟩; obtain rfl := hw3.symm)
      | (go_at_call 90; refine (contains_walk Hi2.out 0).mono ?_; rintro e w4 ⟨rfl, hw4⟩; obtain rfl := hw4.symm; rw [Hcn.out]))
    go_ret
    exact ⟨rfl, HB2.out⟩
  · rcases hown.2 with ⟨rfl, h00⟩ | ⟨g, cap2, cur, rfl, hbg, hh, r1, r2, r3, r4⟩
    · exact absurd (List.length_eq_zero_iff.1 h00) hne
    have hgl := heap_lt hh
    have H0 := holds_of_blockI (ss := l) hh (by simpa using r4)
    have Hcomp := hideIt (AnyG.slices_Compact_int Tryz.lCompact g 0 cap2 l w2 H0 (by omega) r1)
    have HH0 := hideIt H0
    have Hbg := hideIt hbg
    clear hown hh r4 H0 hne
    go_wp2_with fail
    go_at_call 89
    refine Hcomp.out.mono ?_
    rintro e w3 ⟨rfl, hw3⟩
    have s2 := compact_row HH0.out hw3
    have HB3 : Hid (Below w.heap.size w w3) := HB2.out.grown s2.2 HB2.out.size (fun k e => by cases e; have := Hbg.out; omega)
    have Hi3 : Hid (Ints X w3 (.slice ad l.length cap) l) := Hi.out.below HB3.out (Nat.le_refl _)
    rw [Hck.out]
    clear hw3 s2 Hcomp
    go_wp2_with (go_at_call 90; refine (contains_walk Hi3.out 0).mono ?_; rintro e w4 ⟨rfl, hw4⟩; obtain rfl := hw4.symm; rw [Hcn.out])
    go_ret
    exact ⟨rfl, HB3.out⟩

/-- Partial of a plain regex by whatever. -/
def PbPost (c x : Int) (X : Nat → Prop) (w : World) (eb mb ab nb : Nat) (lim : Int) (A : List Nd) (e : Ending) (w' : World) : Prop :=
  ∃ X' nb' A' v ev, GrX X w eb mb ab nb lim A X' w' nb' A' ∧ e = .returned (.tuple #[v, ev]) ∧ ((ev = .nilIface ∧ ∃ l, Ints X' w' v l ∧ Nz v ∧ ((0 ≤ c ∧ c ≤ 196607) ∧ Par A' c x l ∨ ¬ (0 ≤ c ∧ c ≤ 196607) ∧ l = [])) ∨ ((∃ t v, ev = .iface t v) ∧ lim ≤ A'.length))

set_option maxHeartbeats 4000000 in
theorem Partial_any {X : Nat → Prop} {w : World} {eb mb ab nb : Nat} {lim : Int} (hlim : lim ≤ 65536) {A : List Nd} (hE : Es X w eb mb ab nb lim A) (c : Int) {x : Int} (hx : Valid A x) (hp : PlainR A x) :
    Calls Tryz.prog 31 #[.pointer (some ⟨eb, 0, none⟩), .int .i64 x, .int .i64 c] w (PbPost c x X w eb mb ab nb lim A) := by
  by_cases hc : 0 ≤ c ∧ c ≤ 196607
  · refine (Partial_walk hlim hE hc hx hp).mono ?_
    rintro e w' ⟨X', nb', A', v, ev, h1, h2, h3⟩
    exact ⟨X', nb', A', v, ev, h1, h2, h3.imp (fun ⟨q1, l, q2, q3, q4⟩ => ⟨q1, l, q2, q3, Or.inl ⟨hc, q4⟩⟩) (fun ⟨q1, _, q3⟩ => ⟨q1, q3⟩)⟩
  · have HE := hideIt hE
    have Hx := hideIt hx
    have Hp := hideIt hp
    have Hc := hideIt hc
    have Hdc : Hid (decide (0 ≤ c ∧ c ≤ 196607) = false) := decide_eq_false hc
    clear hE hx hp hc
    go_enter Tryz.func31, Tryz.ntmps31
    go_wp2_with fail
    go_at_call 35
    refine (Plain_walk _ x rfl w HE.out Hx.out).mono ?_
    rintro e w1 ⟨b1, rfl, hb1, hg1⟩
    have eb1 := hb1.2 Hp.out
    subst eb1
    have HP : Hid (PbPost c x X w eb mb ab nb lim A (.returned (.tuple #[.slice none 0 0, .nilIface])) w1) := ⟨X, nb, A, _, _, hg1, rfl, Or.inl ⟨rfl, [], Seq.nil _ _, (fun n c e => by cases e; exact ⟨rfl, rfl⟩), Or.inr ⟨Hc.out, rfl⟩⟩⟩
    clear hb1 hg1
    go_wp2_with (go_at_call 79; refine (inAlphabet_walk c _).mono ?_; rintro e w2 ⟨rfl, hw2⟩; obtain rfl := hw2.symm; rw [Hdc.out])
    go_ret2
    exact HP.out

set_option maxHeartbeats 2000000 in
theorem Partial_not {X : Nat → Prop} {w : World} {eb mb ab nb : Nat} {lim : Int} {A : List Nd} (hE : Es X w eb mb ab nb lim A) {ad : Addr} (hn : Gp w ad) (hxn : ¬ X 1) (c : Int) {x : Int} (hx : Valid A x) (hp : ¬ PlainR A x) :
    Calls Tryz.prog 31 #[.pointer (some ⟨eb, 0, none⟩), .int .i64 x, .int .i64 c] w fun e w' => e = .returned (.tuple #[.slice none 0 0, .iface 216 (.pointer (some ad))]) ∧ GrX X w eb mb ab nb lim A X w' nb A := by
  have HE := hideIt hE
  have Hx := hideIt hx
  have Hp := hideIt hp
  have Hn := hideIt hn
  have Hxn := hideIt hxn
  clear hE hx hp hn hxn
  go_enter Tryz.func31, Tryz.ntmps31
  go_wp2_with fail
  go_at_call 35
  refine (Plain_walk _ x rfl w HE.out Hx.out).mono ?_
  rintro e w1 ⟨b1, rfl, hb1, hg1⟩
  have HG1 := hideIt hg1
  have hn1 : w1.cell? ⟨1, 0, none⟩ = some (.iface 216 (.pointer (some ad))) := hg1.cell HE.out Hn.out Hxn.out
  clear hg1
  cases b1
  · clear hb1
    go_wp2_with fail
    go_region
    go_wp2_with fail
    go_ret2
    exact ⟨rfl, HG1.out.below (below_d _)⟩
  · exact absurd (hb1.1 rfl) Hp.out

set_option maxHeartbeats 2000000 in
theorem States_not {X : Nat → Prop} {w : World} {eb mb ab nb : Nat} {lim : Int} {A : List Nd} (hE : Es X w eb mb ab nb lim A) {ad : Addr} (hn : Gp w ad) (hxn : ¬ X 1) (c : Int) {x : Int} (hx : Valid A x) (hp : ¬ PlainR A x) :
    Calls Tryz.prog 34 #[.pointer (some ⟨eb, 0, none⟩), .int .i64 x, .int .i64 c] w fun e w' => e = .returned (.tuple #[.slice none 0 0, .bool false, .iface 216 (.pointer (some ad))]) ∧ GrX X w eb mb ab nb lim A X w' nb A := by
  have HE := hideIt hE
  have Hx := hideIt hx
  have Hp := hideIt hp
  have Hn := hideIt hn
  have Hxn := hideIt hxn
  clear hE hx hp hn hxn
  go_enter Tryz.func34, Tryz.ntmps34
  go_wp2_with fail
  go_at_call 35
  refine (Plain_walk _ x rfl w HE.out Hx.out).mono ?_
  rintro e w1 ⟨b1, rfl, hb1, hg1⟩
  have HG1 := hideIt hg1
  have hn1 : w1.cell? ⟨1, 0, none⟩ = some (.iface 216 (.pointer (some ad))) := hg1.cell HE.out Hn.out Hxn.out
  clear hg1
  cases b1
  · clear hb1
    go_wp2_with fail
    go_region
    go_wp2_with fail
    go_ret3
    exact ⟨rfl, HG1.out.below (below_d _)⟩
  · exact absurd (hb1.1 rfl) Hp.out
end Go.Proofs.Qxb6500848aGreatDoor
