/-
  MatchesPartial.
-/
import Derived.Test.Qxb6500848aGreatDoorPwW
import Derived.Test.Qxb6500848aGreatDoorMatchW
namespace Go.Proofs.Qxb6500848aGreatDoor
open Go.RowKit Pl Go.Maps
set_option maxRecDepth 100000

def MpPost (ad : Addr) (wd : Word) (x : Int) (X : Nat → Prop) (w : World) (eb mb ab nb : Nat) (lim : Int) (A : List Nd) (e : Ending) (w' : World) : Prop :=
  ∃ X' nb' A' b ev, GrX X w eb mb ab nb lim A X' w' nb' A' ∧ e = .returned (.tuple #[.bool b, ev]) ∧
    ((¬ PlainR A x ∧ ev = .iface 216 (.pointer (some ad)) ∧ b = false) ∨
     (PlainR A x ∧ ev = .nilIface ∧ (b = true ↔ Alph wd ∧ lang A' x wd)) ∨
     (PlainR A x ∧ (∃ t u, ev = .iface t u) ∧ b = false ∧ Fl lim A' w' ev))

set_option maxHeartbeats 8000000 in
theorem MatchesPartial_walk {X : Nat → Prop} {w : World} {eb mb ab nb : Nat} {lim : Int} (hlim : lim ≤ 65536) {A : List Nd} (hE : Es X w eb mb ab nb lim A) {ad : Addr} (hn : Gp w ad) (hxn : ¬ X 1) {x : Int} (hx : Valid A x) {wv : Value} {wd : Word} (hw : Ints X w wv wd) (hwl : wd.length ≤ 65536) :
    Calls Tryz.prog 33 #[.pointer (some ⟨eb, 0, none⟩), .int .i64 x, wv] w (MpPost ad wd x X w eb mb ab nb lim A) := by
  have Hpw := hideIt (PartialWord_walk hlim hE hn hxn hx hw hwl)
  have HE := hideIt hE
  have Hx := hideIt hx
  obtain ⟨wa, wcap, rfl, _, _, _⟩ := hw
  clear hE hn hxn hx
  go_enter Tryz.func33, Tryz.ntmps33
  go_wp2_with fail
  go_at_call 32
  refine Hpw.out.mono ?_
  rintro e w1 ⟨X1, nb1, A1, v1, ev1, hg1, rfl, hh1⟩
  have HG1 := hideIt hg1
  obtain ⟨b1, b2, b3, he2⟩ := hg1.en.eng
  have e0 := box_cell he2 0
  simp only [List.getElem?_toArray, List.getElem?_cons_zero] at e0
  clear hg1 Hpw
  rcases hh1 with ⟨hp, rfl, rfl⟩ | ⟨hp, rfl, l, hi, hn, hl, hk, hq⟩ | ⟨hp, ⟨t, u, rfl⟩, rfl, hf⟩
  · have Hp := hideIt hp
    clear hp he2
    go_wp2_with fail
    go_ret2
    exact ⟨X1, nb1, A1, false, _, HG1.out, rfl, Or.inl ⟨Hp.out, rfl, rfl⟩⟩
  · have Hp := hideIt hp
    have Hq : Hid ((∃ p ∈ l, lang A1 p []) ↔ Alph wd ∧ lang A1 x wd) := by
      rcases hq with ⟨h1, h2⟩ | ⟨h1, rfl⟩
      · have h3 := h2.quot HG1.out.en.st.ar.wf (HG1.out.le.valid Hx.out) [] alph_nil
        rw [List.append_nil] at h3
        exact h3.trans ⟨fun h => ⟨h1, h⟩, fun h => h.2⟩
      · exact ⟨fun ⟨p, hp, _⟩ => (by cases hp), fun h => absurd h.1 h1⟩
    have Hv : Hid (∀ p ∈ l, Valid A1 p) := by
      rcases hq with ⟨h1, h2⟩ | ⟨h1, rfl⟩
      · exact h2.valid HG1.out.en.st.ar.wf (HG1.out.le.valid Hx.out)
      · exact fun p hp => (by cases hp)
    have Hi := hideIt hi
    obtain ⟨na, nc, rfl, _, _, _⟩ := hi
    clear hp hq hn hk he2
    go_wp2_with fail
    go_loopw [24] (fun i wr => ∃ (k : Nat), k ≤ l.length ∧ i = .int .i64 k ∧ Below w1.heap.size w1 wr ∧ ∀ j (h : j < l.length), j < k → ¬ lang A1 l[j] []) (fun i _ => l.length - (intOf i).toNat)
    case atStart => exact ⟨0, by omega, rfl, Below.refl _ _, fun j _ h => by omega⟩
    case round =>
      obtain ⟨k, hk, rfl, hb, hall⟩ := hrel
      have HB := hideIt hb
      by_cases hlt : k < l.length
      · have hlt' : (k : Int) < (l.length : Int) := by omega
        obtain ⟨a4, c4, e4, _, _, h4⟩ := Hi.out.below hb (Nat.le_refl _)
        cases e4
        obtain ⟨g4, o4, rfl, _, hc4⟩ := h4 (fun e => by rw [e] at hlt; cases hlt)
        have cj := hc4 k hlt
        have Hvk := hideIt (Hv.out _ (List.getElem_mem hlt))
        have Hin : Hid (l[k] ∈ l) := List.getElem_mem hlt
        have Hnext : Hid (¬ lang A1 l[k] [] → ∀ j (h : j < l.length), j < k + 1 → ¬ lang A1 l[j] []) := fun hp j hj hjk => by
          by_cases e : j = k
          · subst e; exact hp
          · exact hall j hj (by omega)
        generalize l[k] = y at *
        obtain ⟨f1, f2, f3, hf2⟩ := (HG1.out.below hb).en.eng
        have f0 := box_cell hf2 0
        simp only [List.getElem?_toArray, List.getElem?_cons_zero] at f0
        clear h4 hc4 hall hb hf2 e0
        go_wp2_with fail
        go_at_call 86
        refine (nullable_walk (HG1.out.below HB.out).en.st Hvk.out).mono ?_
        rintro e w2 ⟨b, rfl, hb, hB⟩
        have HG2 := hideIt ((HG1.out.below HB.out).below hB)
        have HB2 := hideIt (HB.out.trans (hB.mono HB.out.size))
        have Hb := hideIt hb
        clear hb hB
        cases b
        · go_wp2_with fail
          go_roundw
          case rel => exact ⟨k + 1, by omega, by go_num, HB2.out, Hnext.out (fun h => absurd (Hb.out.2 h) (by simp))⟩
          case measure => simp [intOf]; omega
        · go_wp2_with fail
          go_ret2
          exact ⟨X1, nb1, A1, true, _, HG2.out, rfl, Or.inr (Or.inl ⟨Hp.out, rfl, ⟨fun _ => Hq.out.1 ⟨_, Hin.out, Hb.out.1 (by trivial)⟩, fun _ => rfl⟩⟩)⟩
      · obtain rfl : k = l.length := by omega
        have Hno : Hid (¬ (Alph wd ∧ lang A1 x wd)) := fun h => by
          obtain ⟨p, hp, hl'⟩ := Hq.out.2 h
          obtain ⟨j, hj, rfl⟩ := List.getElem_of_mem hp
          exact hall j hj hj hl'
        clear hb hall e0
        go_wp2_with fail
        go_ret2
        exact ⟨X1, nb1, A1, false, _, HG1.out.below HB.out, rfl, Or.inr (Or.inl ⟨Hp.out, rfl, ⟨fun h => (by cases h), fun h => (Hno.out h).elim⟩⟩)⟩
  · have Hp := hideIt hp
    clear hp he2
    go_wp2_with fail
    go_ret2
    exact ⟨X1, nb1, A1, false, _, HG1.out, rfl, Or.inr (Or.inr ⟨Hp.out, ⟨t, u, rfl⟩, rfl, hf⟩)⟩
end Go.Proofs.Qxb6500848aGreatDoor
