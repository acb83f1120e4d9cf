/-
  intern, and what its failure means.
-/
import Derived.Test.Qxb6500848aGreatDoorIntern
namespace Go.Proofs.Qxb6500848aGreatDoor
open Go.RowKit Pl
set_option maxRecDepth 100000

/-- The node is not in the arena. -/
def NoVal (A : List Nd) : Nf → Prop
  | .id _ => False
  | .nd n => ∀ j (h : j < A.length), A[j] ≠ n
/-- At most the node asked for was added. -/
def Add (A A' : List Nd) (nf : Nf) : Prop := A' = A ∨ ∃ n, nf = .nd n ∧ A' = A ++ [n]
def MadeN (nf : Nf) (X : Nat → Prop) (w : World) (ab nb : Nat) (lim : Int) (A : List Nd) (e : Ending) (w' : World) : Prop :=
  ∃ X' nb' A' z ev, Grow X w ab nb lim A X' w' nb' A' ∧ e = .returned (.tuple #[.int .i64 z, ev]) ∧ ((ev = .nilIface ∧ Val A' nf z ∧ Add A A' nf) ∨ ((∃ t v, ev = .iface t v) ∧ z = 0 ∧ Fl lim A' w' ev ∧ A' = A ∧ NoVal A nf))
theorem MadeN.id {X : Nat → Prop} {w : World} {ab nb : Nat} {lim : Int} {A : List Nd} (h : St X w ab nb lim A) {w' : World} (k : Below w.heap.size w w') {x : Int} (hx : Valid A x) : MadeN (.id x) X w ab nb lim A (.returned (.tuple #[.int .i64 x, .nilIface])) w' :=
  ⟨X, nb, A, x, _, (Grow.refl h).below k (Nat.le_refl _), rfl, Or.inl ⟨rfl, ⟨rfl, hx⟩, Or.inl rfl⟩⟩
theorem MadeN.after {nf : Nf} {X : Nat → Prop} {w w1 : World} {ab nb : Nat} {lim : Int} {A : List Nd} {e : Ending} {w' : World} (k : Below w.heap.size w w1) (h : MadeN nf X w1 ab nb lim A e w') : MadeN nf X w ab nb lim A e w' := by
  obtain ⟨X', nb', A', z, ev, h1, h2⟩ := h
  exact ⟨X', nb', A', z, ev, Grow.after k (Nat.le_refl _) h1, h2⟩

set_option maxHeartbeats 4000000 in
theorem intern_walkN {X : Nat → Prop} {w : World} {ab nb : Nat} {lim : Int} {A : List Nd} (hS : St X w ab nb lim A) (nd : Nd) (hok : NdOk A A.length nd) {sv kv : Value} (hk : Ints X w kv nd.kids) (hs : Words X w sv nd.bits) (hlim : lim ≤ 65536) :
    Calls Tryz.prog 132 #[.pointer (some ⟨ab, 0, none⟩), .agg #[.int .i64 nd.kind, sv, kv, .int .i64 nd.lo, .int .i64 nd.hi]] w (MadeN (.nd nd) X w ab nb lim A) := by
  obtain ⟨kd, bs, ks, lo, hi⟩ := nd
  dsimp only at hk hs ⊢
  obtain ⟨cap, S, x1, x2, x3, x4⟩ := hS.ar.ex
  have n0 := box_cell x1 0
  simp only [List.getElem?_toArray, List.getElem?_cons_zero] at n0
  obtain ⟨i0, hi0, hz0, hz1, hz2⟩ := info_parts info_node
  have hlen := hS.ar.len
  have hab : ab < w.heap.size := hS.ar.la
  have HSt := hideIt hS
  have Hok := hideIt hok
  have HKn0 := hideIt hk
  have HSn0 := hideIt hs
  obtain ⟨ka, kc, ekv, k1, k2, k3⟩ := hk
  obtain ⟨sa, sc, esv, s1, s2, s3⟩ := hs
  subst ekv
  subst esv
  clear k3 s3 hok hS
  have Hx1 := hideIt x1
  have Hx4 := hideIt x4
  have Hx3' := hideIt x3
  clear x1 x3 x4
  go_enter Tryz.func132, Tryz.ntmps132
  go_wp2_with fail
  go_loopw [13] (fun i wr => ∃ k : Nat, k ≤ A.length ∧ i = .int .i64 k ∧ Seek w A (Nd.mk kd bs ks lo hi) (.cells #[.int .i64 kd, .slice sa bs.length sc, .slice ka ks.length kc, .int .i64 lo, .int .i64 hi] 110) k wr ∧ ∀ j (h : j < A.length), j < k → A[j] ≠ (Nd.mk kd bs ks lo hi)) (fun i _ => A.length - (intOf i).toNat)
  case atStart => exact ⟨0, by omega, rfl, ⟨Below.alloc (Below.refl _ _) (Nat.le_refl _) _, by rw [Deep.nblk_alloc]; omega, heap_new _ _⟩, fun j _ h => by omega⟩
  case round =>
    obtain ⟨k, hkl, rfl, hsk, hne⟩ := hrel
    have bx0 := box_cell hsk.box 0
    have bx1 := box_cell hsk.box 1
    have bx2 := box_cell hsk.box 2
    have bx3 := box_cell hsk.box 3
    have bx4 := box_cell hsk.box 4
    simp only [List.getElem?_toArray, List.getElem?_cons_zero, List.getElem?_cons_succ] at bx0 bx1 bx2 bx3 bx4
    have hbig := hsk.big
    have hb := hsk.below
    by_cases hlt : k < A.length
    · have hlt' : (k : Int) < (A.length : Int) := by omega
      have hvk : Valid A (k : Int) := ⟨by omega, by simpa using hlt⟩
      obtain ⟨cap', _, _, m1⟩ := (HSt.out.ar.below hb (Nat.le_refl _)).node
      obtain ⟨sv', kv', c0, c1, c2, c3, c4, hko, hso⟩ := m1 (k : Int) hvk
      have ek : nodeAt A (k : Int) = A[k] := getD_lt hlt _
      rw [ek] at c0 c3 c4 hko hso
      simp only [Int.toNat_natCast] at c0 c1 c2 c3 c4
      have HokO : Hid (NdOk A k A[k]) := HSt.out.ar.wf.node k hlt
      generalize hod : A[k] = od at *
      have HKo := hideIt hko
      have HSo := hideIt hso
      have HKn := hideIt (HKn0.out.below hb (Nat.le_refl _))
      have HSn := hideIt (HSn0.out.below hb (Nat.le_refl _))
      have HNE : Hid (od ≠ (Nd.mk kd bs ks lo hi) → ∀ j (h : j < A.length), j < k + 1 → A[j] ≠ (Nd.mk kd bs ks lo hi)) := fun hx j hj hjk => by
        by_cases e : j = k
        · subst e; rw [hod]; exact hx
        · exact hne j hj (by omega)
      have HSK := hideIt hsk
      have HB := hideIt hb
      have Hod := hideIt hod
      obtain ⟨ka', kc', ekv, _, _, _⟩ := hko
      obtain ⟨sa', sc', esv, _, _, _⟩ := hso
      subst ekv
      subst esv
      clear hne hsk hb m1 ek hod
      have hcs := node_cases od (Nd.mk kd bs ks lo hi)
      dsimp only at hcs
      rcases hcs with h | ⟨h, h2⟩ | ⟨h, h1, h2⟩ | ⟨h, h1, h3, h2⟩ | ⟨h, h1, h3, h4, rfl, h2⟩ | ⟨h, h1, h3, h4, rfl, h2⟩ | ⟨h, h1, h3, h4, h5⟩
      · have Hne : Hid (∀ j (h : j < A.length), j < k + 1 → A[j] ≠ (Nd.mk kd bs ks lo hi)) := HNE.out (fun e => h (by rw [e]))
        go_wp2_with fail
        go_roundw
        case rel => exact ⟨k + 1, by omega, by go_num, HSK.out.next _ 0, Hne.out⟩
        case measure => simp [intOf]; omega
      · have Hne : Hid (∀ j (h : j < A.length), j < k + 1 → A[j] ≠ (Nd.mk kd bs ks lo hi)) := HNE.out (fun e => h2 (by rw [e]))
        go_wp2_with fail
        go_roundw
        case rel => exact ⟨k + 1, by omega, by go_num, HSK.out.next _ 0, Hne.out⟩
        case measure => simp [intOf]; omega
      · have Hne : Hid (∀ j (h : j < A.length), j < k + 1 → A[j] ≠ (Nd.mk kd bs ks lo hi)) := HNE.out (fun e => h2 (by rw [e]))
        go_wp2_with fail
        go_roundw
        case rel => exact ⟨k + 1, by omega, by go_num, HSK.out.next _ 0, Hne.out⟩
        case measure => simp [intOf]; omega
      · have Hne : Hid (∀ j (h : j < A.length), j < k + 1 → A[j] ≠ (Nd.mk kd bs ks lo hi)) := HNE.out (fun e => h2 (by rw [e]))
        have hd : decide (od.kids = ks) = false := decide_eq_false h2
        clear h2
        go_wp2_with (first
          | (go_at_call 57; refine (equalI_walk (HKo.out.below (Below.alloc (Below.refl _ _) (Nat.le_refl _) _) (Nat.le_refl _)) (HKn.out.below (Below.alloc (Below.refl _ _) (Nat.le_refl _) _) (Nat.le_refl _))).mono ?_; rintro e w3 ⟨rfl, q, rfl⟩))
        go_roundw
        case rel => exact ⟨k + 1, by omega, by go_num, HSK.out.next _ q, Hne.out⟩
        case measure => simp [intOf]; omega
      · have Hne : Hid (∀ j (h : j < A.length), j < k + 1 → A[j] ≠ (Nd.mk 3 bs ks lo hi)) := HNE.out (fun e => h2 (by rw [e]))
        have hd : decide (od.kids = ks) = true := decide_eq_true h4
        have hd2 : decide (od.bits = bs) = false := decide_eq_false h2
        clear h2 h4
        go_wp2_with (first
          | (go_at_call 57; refine (equalI_walk (HKo.out.below (Below.alloc (Below.refl _ _) (Nat.le_refl _) _) (Nat.le_refl _)) (HKn.out.below (Below.alloc (Below.refl _ _) (Nat.le_refl _) _) (Nat.le_refl _))).mono ?_; rintro e w3 ⟨rfl, q, rfl⟩)
          | (go_at_call 22; refine (same_walk ((HSo.out.below (Below.alloc (Below.refl _ _) (Nat.le_refl _) _) (Nat.le_refl _)).below (drewN_below _ _ q) (Nat.le_refl _)) ((HSn.out.below (Below.alloc (Below.refl _ _) (Nat.le_refl _) _) (Nat.le_refl _)).below (drewN_below _ _ q) (Nat.le_refl _))).mono ?_; rintro e w4 ⟨rfl, q2, rfl⟩))
        go_roundw
        case rel => exact ⟨k + 1, by omega, by go_num, HSK.out.next _ (q + q2), Hne.out⟩
        case measure => simp [intOf]; omega
      · have Hall : Hid (nodeAt A (k : Int) = (Nd.mk 3 bs ks lo hi)) := by
          have ek : nodeAt A (k : Int) = A[k] := getD_lt hlt _
          have ho := Hod.out
          show nodeAt A (k : Int) = (Nd.mk 3 bs ks lo hi)
          rw [ek, ho]
          cases od; simp_all
        have hd : decide (od.kids = ks) = true := decide_eq_true h4
        have hd2 : decide (od.bits = bs) = true := decide_eq_true h2
        clear h2 h4
        go_wp2_with (first
          | (go_at_call 57; refine (equalI_walk (HKo.out.below (Below.alloc (Below.refl _ _) (Nat.le_refl _) _) (Nat.le_refl _)) (HKn.out.below (Below.alloc (Below.refl _ _) (Nat.le_refl _) _) (Nat.le_refl _))).mono ?_; rintro e w3 ⟨rfl, q, rfl⟩)
          | (go_at_call 22; refine (same_walk ((HSo.out.below (Below.alloc (Below.refl _ _) (Nat.le_refl _) _) (Nat.le_refl _)).below (drewN_below _ _ q) (Nat.le_refl _)) ((HSn.out.below (Below.alloc (Below.refl _ _) (Nat.le_refl _) _) (Nat.le_refl _)).below (drewN_below _ _ q) (Nat.le_refl _))).mono ?_; rintro e w4 ⟨rfl, q2, rfl⟩))
        go_ret2
        exact ⟨X, nb, A, k, _, (Grow.refl HSt.out).below ((HB.out.alloc (Nat.le_of_lt hbig) _).trans (drewN_below _ _ (q + q2))) (Nat.le_refl _), rfl, Or.inl ⟨rfl, ⟨⟨by omega, by simpa using hlt⟩, Hall.out⟩, Or.inl rfl⟩⟩
      · have Hall : Hid (nodeAt A (k : Int) = (Nd.mk kd bs ks lo hi)) := by
          have ek : nodeAt A (k : Int) = A[k] := getD_lt hlt _
          have ho := Hod.out
          show nodeAt A (k : Int) = (Nd.mk kd bs ks lo hi)
          rw [ek, ho]
          have b1 := HokO.out.bits (by omega)
          have b2 := Hok.out.bits h5
          cases od; simp_all
        have hd : decide (od.kids = ks) = true := decide_eq_true h4
        clear h4
        go_wp2_with (first
          | (go_at_call 57; refine (equalI_walk (HKo.out.below (Below.alloc (Below.refl _ _) (Nat.le_refl _) _) (Nat.le_refl _)) (HKn.out.below (Below.alloc (Below.refl _ _) (Nat.le_refl _) _) (Nat.le_refl _))).mono ?_; rintro e w3 ⟨rfl, q, rfl⟩))
        go_ret2
        exact ⟨X, nb, A, k, _, (Grow.refl HSt.out).below ((HB.out.alloc (Nat.le_of_lt hbig) _).trans (drewN_below _ _ q)) (Nat.le_refl _), rfl, Or.inl ⟨rfl, ⟨⟨by omega, by simpa using hlt⟩, Hall.out⟩, Or.inl rfl⟩⟩
    · obtain rfl : k = A.length := by omega
      have mb : wr.heap[ab]? = some (.cells #[.slice (some ⟨nb, 0, none⟩) A.length cap, .int .i64 lim] 113 (0, 0)) := (hb.block ab hab).trans Hx1.out
      have m0 := box_cell mb 0
      have m1 := box_cell mb 1
      simp only [List.getElem?_toArray, List.getElem?_cons_zero, List.getElem?_cons_succ] at m0 m1
      have habr : ab < wr.heap.size := by omega
      have HB := hideIt hb
      have HNE := hideIt hne
      have Hx3 := hideIt (ownsRow_ext Hx3'.out (Y := fun _ => False) ((Ext.of_below hb _).mono (Nat.le_refl _) (fun _ _ x => x)) (fun _ _ => id))
      have Hbx := hideIt hsk.box
      obtain ⟨er1, et, ev, er2⟩ := (HSt.out.ar.below hb (Nat.le_refl _)).er
      have Hmb := hideIt mb
      have hnab : ab ≠ nb := HSt.out.ar.ne
      clear hne hb hsk mb
      by_cases hfull : lim ≤ (A.length : Int)
      · go_wp2_with fail
        go_region
        go_wp2_with fail
        go_region
        go_wp2_with fail
        go_ret2
        exact ⟨X, nb, A, 0, _, (Grow.refl HSt.out).below (HB.out.trans (drewN_below _ _ 2)) (Nat.le_refl _), rfl, Or.inr ⟨⟨et, ev, rfl⟩, rfl, ⟨hfull, er2⟩, rfl, fun j hj => HNE.out j hj hj⟩⟩
      · have hfull' : (A.length : Int) < lim := by omega
        go_wp2_with fail
        go_region
        go_wp2_with fail
        go_region_law ((refine step_append_lies _ (by rfl) _ _ _ (by rfl) 0 110 i0 _ 5 72 Tryz.underlying111 hi0 hz0 hz1 hz2 rfl (by omega) (.slice (some ⟨nb, 0, none⟩) A.length cap) A.length (rowOf A S) (by rfl) ((Hx3.out.alloc _).drew) ⟨wr.heap.size, 0, none⟩ 1 1 [.int .i64 kd, .slice sa bs.length sc, .slice ka ks.length kc, .int .i64 lo, .int .i64 hi] (by rfl) (by rfl) (World.news_of_block (cs := #[.int .i64 kd, .slice sa bs.length sc, .slice ka ks.length kc, .int .i64 lo, .int .i64 hi]) (t := 110) (fr := (0, 0)) (heap_alloc_new wr _)) (by simp [Value.oneCell']) (by omega) (by unfold maxLen; omega) (by omega) (by omega) (wr.heap.size + 1) (by simp) ?_; intro g cap3 w5 hown hgrow hat hglt; have hz5 := (hgrow.block ab (by simp; omega) (by simp [Value.ownBlock, hnab])).trans ((Deep.blk_alloc_lt wr _ ab habr).trans Hmb.out); have cz5 := box_cell hz5 0; simp only [List.getElem?_toArray, List.getElem?_cons_zero] at cz5; have fz5 : w5.frozen? ⟨ab, 0, none⟩ = false := by simp [World.frozen?, hz5]))
        all_goals
          go_wp2_with fail
          go_ret2
          exact ⟨fun b => X b ∨ b = g, g, A ++ [(Nd.mk kd bs ks lo hi)], A.length, _, Grow.add (w1 := (wr.alloc (.cells #[.int .i64 kd, .slice sa bs.length sc, .slice ka ks.length kc, .int .i64 lo, .int .i64 hi] 110)).drew.drew) HSt.out Hok.out (fun j hj => HNE.out j hj hj) (by omega) HKn0.out HSn0.out ((HB.out.alloc (Nat.le_of_lt hbig) _).trans ⟨rfl, rfl, rfl, Nat.le_refl _, fun _ _ => rfl⟩) (Nat.lt_of_lt_of_le habr (by show wr.heap.size ≤ (wr.alloc _).heap.size; rw [Deep.nblk_alloc]; omega)) x2 Hx4.out hown hgrow (hat.imp (fun e => Option.some.inj e) (fun e => by omega)) hglt ((Deep.blk_alloc_lt wr _ ab habr).trans Hmb.out), rfl, Or.inl ⟨rfl, ⟨⟨by omega, by simp⟩, by simp [nodeAt]⟩, Or.inr ⟨_, rfl, rfl⟩⟩⟩
end Go.Proofs.Qxb6500848aGreatDoor
