/-
  Clone, Partial.
-/
import Derived.Test.Qxb6500848aGreatDoorKnW
namespace Go.Proofs.Qxb6500848aGreatDoor
open Go.RowKit Pl Go.Maps
set_option maxRecDepth 100000

theorem own_ints2 {X : Nat → Prop} {w : World} {B : Nat} {v : Value} {l : List Int} (h : w.ownsRow B 28 1 v l.length (l.map encI)) (hX : ∀ b, X b → b < B) : Ints X w v l ∧ Nz v := by
  rcases h.2 with ⟨rfl, h0⟩ | ⟨g, cap, cur, rfl, hb, hh, r1, r2, r3, r4⟩
  · have : l = [] := List.length_eq_zero_iff.1 h0
    subst this
    exact ⟨Seq.nil _ _, fun n c e => by cases e; exact ⟨rfl, rfl⟩⟩
  · refine ⟨⟨_, cap, rfl, r1, r2, fun _ => ⟨g, 0, rfl, fun e => by have := hX g e; omega, fun j hj => ?_⟩⟩, (fun n c e => by cases e)⟩
    have e : (cur.toList.take (l.length * 1))[j]? = (l.map encI)[j]? := by rw [r4]
    rw [List.getElem?_take_of_lt (by omega)] at e
    simp only [World.cell?, hh]
    simp [hj] at e
    simpa using e
theorem eql_nil (w : World) : (binOp .eql 37 (.slice none 0 0) (.slice none 0 0)).run Tryz.prog w = .ok (.bool true) w := by kernel_rfl
theorem eql_some (a : Addr) (n c : Nat) (w : World) : (binOp .eql 37 (.slice (some a) n c) (.slice none 0 0)).run Tryz.prog w = .ok (.bool false) w := by kernel_rfl

theorem clone_cells {w : World} {g o : Nat} {l : List Int} (hc : ∀ j (h : j < l.length), w.cell? ⟨g, o + j, none⟩ = some (encI l[j])) (j : Nat) (u : Value) (hu : (l.map encI)[j]? = some u) : (w.alloc (.cells #[] 28)).cell? ((⟨g, o, none⟩ : Addr).add j) = some u := by
  rw [List.getElem?_map] at hu
  obtain ⟨y, hy, rfl⟩ := Option.map_eq_some_iff.1 hu
  obtain ⟨hj, rfl⟩ := List.getElem?_eq_some_iff.1 hy
  have h := hc j hj
  rw [Addr.add_lit]
  exact ((alloc_below (w := w) (.cells #[] 28)).cell (p := ⟨g, o + j, none⟩) (cell_lt h)).trans h
theorem Clone_nil (w : World) : Calls Tryz.prog 84 #[.slice none 0 0] w fun e w' => e = .returned (.slice none 0 0) ∧ w' = w := by
  have he := eql_nil w
  go_enter Tryz.func84, Tryz.ntmps84
  go_wp2
  go_ret
  exact ⟨rfl, rfl⟩

theorem Clone_walk {X : Nat → Prop} {w : World} (hx : ∀ b, X b → b < w.heap.size) {v : Value} {l : List Int} (h : Ints X w v l) (hz : Nz v) (hl : l.length ≤ 65536) :
    Calls Tryz.prog 84 #[v] w fun e w' => ∃ v', e = .returned v' ∧ Ints X w' v' l ∧ Nz v' ∧ Below w.heap.size w w' := by
  obtain ⟨i0, hi0, hz0, hz1, hz2⟩ := info_parts info_id
  obtain ⟨ad, cap, rfl, h1, h2, h3⟩ := h
  cases ad with
  | none =>
    obtain ⟨z1, rfl⟩ := hz _ _ rfl
    have : l = [] := List.length_eq_zero_iff.1 z1
    subst this
    have he := eql_nil w
    clear hz h3 z1
    go_enter Tryz.func84, Tryz.ntmps84
    go_wp2
    go_ret
    exact ⟨_, rfl, Seq.nil _ _, (fun n c e => by cases e; exact ⟨rfl, rfl⟩), Below.refl _ _⟩
  | some a =>
    have Hx := hideIt hx
    by_cases hl0 : l = []
    · subst hl0
      have he := eql_some a 0 cap w
      clear hz h3 hx
      go_enter Tryz.func84, Tryz.ntmps84
      go_wp2
      go_ret
      exact ⟨_, rfl, ⟨_, 0, rfl, by simp, by decide, fun h => absurd rfl h⟩, (fun n c e => by cases e), alloc_below _⟩
    · obtain ⟨g, o, ea, hxg, hc⟩ := h3 hl0
      cases ea
      have Hc := hideIt hc
      have Hl0 := hideIt hl0
      have he := eql_some ⟨g, o, none⟩ l.length cap w
      clear hz h3 hx hc hl0 hxg
      go_enter Tryz.func84, Tryz.ntmps84
      have hl1 : 0 < l.length := List.length_pos_iff.2 Hl0.out
      go_wp2_with (at_builtin; refine wpList_append_grows _ rfl (.tmp 5) (.tmp 6) 37 rfl 28 i0 (.int .i64 0) 1 8 Tryz.underlying37 hi0 hz0 hz1 hz2 rfl (by decide) (some ⟨w.heap.size, 0, none⟩) 0 0 [] rfl (fun e => by cases e) rfl (fun b e j u hu => by simp at hu) ⟨g, o, none⟩ l.length cap (l.map encI) rfl (by simp) (fun j u hu => by exact clone_cells Hc.out j u hu) (one_ints l) (by omega) (by unfold maxLen; omega) (by omega) ?_; intro v' w3 hown hg; rw [Nat.zero_add, List.nil_append] at hown; have HI := hideIt (own_ints2 hown (X := X) (fun b hb => by rw [Deep.nblk_alloc]; have := Hx.out b hb; omega)); have HB : Hid (Below w.heap.size w w3) := ((alloc_below (w := w) (.cells #[] 28)).grown hg (by rw [Deep.nblk_alloc]; omega) (fun k e => by cases e)); clear hown hg)
      go_ret
      exact ⟨_, rfl, HI.out.1, HI.out.2, HB.out⟩

set_option maxHeartbeats 4000000 in
theorem Partial_walk {X : Nat → Prop} {w : World} {eb mb ab nb : Nat} {lim : Int} (hlim : lim ≤ 65536) {A : List Nd} (hE : Es X w eb mb ab nb lim A) {c : Int} (hc : 0 ≤ c ∧ c ≤ 196607) {x : Int} (hx : Valid A x) (hp : PlainR A x) :
    Calls Tryz.prog 31 #[.pointer (some ⟨eb, 0, none⟩), .int .i64 x, .int .i64 c] w (PaPost c x X w eb mb ab nb lim A) := by
  have HE := hideIt hE
  have Hx := hideIt hx
  have Hp := hideIt hp
  have Hc := hideIt hc
  have Hdc : Hid (decide (0 ≤ c ∧ c ≤ 196607) = true) := decide_eq_true hc
  clear hE hx hp hc
  go_enter Tryz.func31, Tryz.ntmps31
  go_wp2_with fail
  go_at_call 35
  refine (Plain_walk _ x rfl w HE.out Hx.out).mono ?_
  rintro e w1 ⟨b1, rfl, hb1, hg1⟩
  have eb1 := hb1.2 Hp.out
  subst eb1
  have HG1 := hideIt hg1
  clear hb1 hg1
  go_wp2_with (first
    | (go_at_call 79; refine (inAlphabet_walk c _).mono ?_; rintro e w2 ⟨rfl, rfl⟩; rw [Hdc.out])
    | fail)
  go_at_call 83
  refine (part_walk Hc.out hlim _ x rfl X _ nb A HG1.out.es Hx.out Hp.out).mono ?_
  rintro e w3 ⟨X3, nb3, A3, v3, ev3, hg3, rfl, hh3⟩
  have HG3 := hideIt (HG1.out.trans hg3)
  clear hg3
  rcases hh3 with ⟨rfl, l3, hI3, hn3, hp3⟩ | ⟨⟨t3, u3, rfl⟩, rfl, hf3⟩
  · have hl3 : l3.length ≤ 65536 := by
      have h1 := hp3.len HG3.out.en.st.ar.wf (HG3.out.le.valid Hx.out)
      have h2 := HG3.out.en.st.ar.len
      omega
    have HI3 := hideIt hI3
    have Hn3 := hideIt hn3
    have Hp3 := hideIt hp3
    clear hI3 hn3 hp3
    go_wp2_with fail
    go_at_call 84
    refine (Clone_walk HG3.out.en.st.xlt HI3.out Hn3.out hl3).mono ?_
    rintro e w4 ⟨v4, rfl, hI4, hn4, hb4⟩
    have HP : Hid (PaPost c x X w eb mb ab nb lim A (.returned (.tuple #[v4, .nilIface])) w4) := ⟨X3, nb3, A3, v4, _, HG3.out.below hb4, rfl, Or.inl ⟨rfl, l3, hI4, hn4, Hp3.out⟩⟩
    clear hI4 hn4 hb4
    go_wp2_with fail
    go_ret2
    exact HP.out
  · have HP : Hid (PaPost c x X w eb mb ab nb lim A (.returned (.tuple #[.slice none 0 0, .iface t3 u3])) w3) := ⟨X3, nb3, A3, _, _, HG3.out, rfl, Or.inr ⟨⟨t3, u3, rfl⟩, rfl, hf3⟩⟩
    clear hf3
    go_wp2_with (go_at_call 84; refine (Clone_nil _).mono ?_; rintro e w4 ⟨rfl, rfl⟩)
    go_ret2
    exact HP.out
end Go.Proofs.Qxb6500848aGreatDoor
