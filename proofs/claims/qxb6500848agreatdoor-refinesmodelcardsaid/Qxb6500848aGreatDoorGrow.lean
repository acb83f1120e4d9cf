/-
  What a constructor does to the arena.
-/
import Derived.Test.Qxb6500848aGreatDoorTableD
import Derived.Deep.Heap
namespace Go.Proofs.Qxb6500848aGreatDoor
open Go.RowKit Pl

/-- The arena, and the blocks that may turn are old. -/
structure St (X : Nat → Prop) (w : World) (ab nb : Nat) (lim : Int) (A : List Nd) : Prop where
  ar : Ar X w ab nb lim A
  xlt : ∀ z, X z → z < w.heap.size

structure Grow (X : Nat → Prop) (w : World) (ab nb : Nat) (lim : Int) (A : List Nd) (X' : Nat → Prop) (w' : World) (nb' : Nat) (A' : List Nd) : Prop where
  st : St X' w' ab nb' lim A'
  le : Le A A'
  ext : Ext w.heap.size (fun b => b = ab ∨ b = nb) w w'
  nbs : nb' = nb ∨ w.heap.size ≤ nb'
  sub : ∀ b, b < w.heap.size → (X' b ↔ X b)

theorem Ar.la {X : Nat → Prop} {w : World} {ab nb : Nat} {lim : Int} {A : List Nd} (h : Ar X w ab nb lim A) : ab < w.heap.size := by
  obtain ⟨cap, S, h1, _⟩ := h.ex
  exact heap_lt h1

theorem St.below {X : Nat → Prop} {B : Nat} {w w' : World} {ab nb : Nat} {lim : Int} {A : List Nd} (h : St X w ab nb lim A) (k : Below B w w') (hB : w.heap.size ≤ B) : St X w' ab nb lim A :=
  ⟨h.ar.below k hB, fun z hz => Nat.lt_of_lt_of_le (h.xlt z hz) k.size⟩

theorem Grow.refl {X : Nat → Prop} {w : World} {ab nb : Nat} {lim : Int} {A : List Nd} (h : St X w ab nb lim A) : Grow X w ab nb lim A X w nb A :=
  ⟨h, Le.refl _, Ext.refl _ _ _, Or.inl rfl, fun _ _ => Iff.rfl⟩

theorem Grow.below {X X' : Nat → Prop} {B : Nat} {w w1 w2 : World} {ab nb nb' : Nat} {lim : Int} {A A' : List Nd} (h : Grow X w ab nb lim A X' w1 nb' A') (k : Below B w1 w2) (hB : w1.heap.size ≤ B) : Grow X w ab nb lim A X' w2 nb' A' :=
  ⟨h.st.below k hB, h.le, h.ext.andThen k (Nat.le_trans h.ext.size hB), h.nbs, h.sub⟩

theorem Grow.after {X X' : Nat → Prop} {B : Nat} {w w1 w2 : World} {ab nb nb' : Nat} {lim : Int} {A A' : List Nd} (k : Below B w w1) (hB : w.heap.size ≤ B) (h : Grow X w1 ab nb lim A X' w2 nb' A') : Grow X w ab nb lim A X' w2 nb' A' :=
  ⟨h.st, h.le, (Ext.of_below k _).mono hB (fun _ _ x => x) |>.trans h.ext k.size (fun _ _ x => x), h.nbs.imp id (fun e => Nat.le_trans k.size e), fun b hb => h.sub b (Nat.lt_of_lt_of_le hb k.size)⟩

theorem Grow.trans {X X' X'' : Nat → Prop} {w w1 w2 : World} {ab nb nb' nb'' : Nat} {lim : Int} {A A' A'' : List Nd} (h : Grow X w ab nb lim A X' w1 nb' A') (k : Grow X' w1 ab nb' lim A' X'' w2 nb'' A'') : Grow X w ab nb lim A X'' w2 nb'' A'' := by
  refine ⟨k.st, h.le.trans k.le, h.ext.trans k.ext h.ext.size (fun i hi e => ?_), ?_, fun b hb => (k.sub b (Nat.lt_of_lt_of_le hb h.ext.size)).trans (h.sub b hb)⟩
  · rcases e with e | e
    · exact Or.inl e
    · rcases h.nbs with e2 | e2
      · exact Or.inr (e.trans e2)
      · omega
  · rcases k.nbs with e | e
    · rcases h.nbs with e2 | e2
      · exact Or.inl (e.trans e2)
      · exact Or.inr (by omega)
    · exact Or.inr (Nat.le_trans h.ext.size e)

theorem Grow.seq {α : Type} {enc : α → Value} {X X' : Nat → Prop} {w w' : World} {ab nb nb' : Nat} {lim : Int} {A A' : List Nd} (h : Grow X w ab nb lim A X' w' nb' A') (h0 : St X w ab nb lim A) {v : Value} {l : List α} (s : Seq enc X w v l) : Seq enc X' w' v l := by
  obtain ⟨ad, cap, rfl, h1, h2, h3⟩ := s
  refine ⟨ad, cap, rfl, h1, h2, fun hl => ?_⟩
  obtain ⟨g, o, rfl, hx, hc⟩ := h3 hl
  have hlt : g < w.heap.size := cell_lt (hc 0 (List.length_pos_iff.2 hl))
  refine ⟨g, o, rfl, fun x => hx ((h.sub g hlt).1 x), fun j hj => ?_⟩
  rw [h.ext.cell (p := ⟨g, o + j, none⟩) hlt (fun y => hx (by rcases y with y | y; · rw [show g = ab from y]; exact h0.ar.xa
                                                              · rw [show g = nb from y]; exact h0.ar.xn))]
  exact hc j hj

/-- The arena is full, and the error is the sentinel's. -/
def Fl (lim : Int) (A : List Nd) (w : World) (ev : Value) : Prop := lim ≤ A.length ∧ w.cell? ⟨2, 0, none⟩ = some ev

/-- What a constructor hands back. -/
def Made (nf : Nf) (X : Nat → Prop) (w : World) (ab nb : Nat) (lim : Int) (A : List Nd) (e : Ending) (w' : World) : Prop :=
  ∃ X' nb' A' z ev, Grow X w ab nb lim A X' w' nb' A' ∧ e = .returned (.tuple #[.int .i64 z, ev]) ∧ ((ev = .nilIface ∧ Val A' nf z) ∨ ((∃ t v, ev = .iface t v) ∧ z = 0 ∧ Fl lim A' w' ev))

theorem Made.id {X : Nat → Prop} {w : World} {ab nb : Nat} {lim : Int} {A : List Nd} (h : St X w ab nb lim A) {w' : World} (k : Below w.heap.size w w') {x : Int} (hx : Valid A x) : Made (.id x) X w ab nb lim A (.returned (.tuple #[.int .i64 x, .nilIface])) w' :=
  ⟨X, nb, A, x, _, (Grow.refl h).below k (Nat.le_refl _), rfl, Or.inl ⟨rfl, rfl, hx⟩⟩
theorem Made.after {nf : Nf} {X : Nat → Prop} {w w1 : World} {ab nb : Nat} {lim : Int} {A : List Nd} {e : Ending} {w' : World} (k : Below w.heap.size w w1) (h : Made nf X w1 ab nb lim A e w') : Made nf X w ab nb lim A e w' := by
  obtain ⟨X', nb', A', z, ev, h1, h2⟩ := h
  exact ⟨X', nb', A', z, ev, Grow.after k (Nat.le_refl _) h1, h2⟩

/-- A new row. -/
theorem ints_new {X : Nat → Prop} {w : World} (hx : ∀ z, X z → z < w.heap.size) (l : List Int) (t : TypeId) (h : l.length ≤ maxLen) : Ints X (w.alloc (.cells (l.map encI).toArray t)) (.slice (some ⟨w.heap.size, 0, none⟩) l.length l.length) l :=
  ⟨_, _, rfl, Nat.le_refl _, h, fun _ => ⟨w.heap.size, 0, rfl, fun e => Nat.lt_irrefl _ (hx _ e), fun j hj => by
    rw [box_cell (heap_new _ _)]
    simp [hj]⟩⟩

/-- The new node at the end. -/
theorem Grow.add {X : Nat → Prop} {w w1 w2 : World} {ab nb g cap cap0 : Nat} {lim : Int} {A : List Nd} {nd : Nd} {sv kv : Value} {S : List (Value × Value)} (h0 : St X w ab nb lim A) (hok : NdOk A A.length nd) (hnew : ∀ j (h : j < A.length), A[j] ≠ nd) (hlen : A.length < 65536)
    (hk : Ints X w kv nd.kids) (hs : Words X w sv nd.bits) (hb : Below w.heap.size w w1) (hla : ab < w1.heap.size)
    (hS : S.length = A.length) (hseq : ∀ i (h : i < A.length) (h' : i < S.length), Ints X w S[i].2 A[i].kids ∧ Words X w S[i].1 A[i].bits)
    (hown : w2.ownsRow 0 110 5 (.slice (some ⟨g, 0, none⟩) (A.length + 1) cap) (A.length + 1) (rowOf A S ++ ndVals nd (sv, kv)))
    (hgrow : w1.grownBy w2 (Value.slice (some ⟨nb, 0, none⟩) A.length cap0).ownBlock) (hat : nb = g ∨ w.heap.size ≤ g) (hlt : g < w2.heap.size)
    (hab : w1.heap[ab]? = some (.cells #[.slice (some ⟨nb, 0, none⟩) A.length cap0, .int .i64 lim] 113 (0, 0))) :
    Grow X w ab nb lim A (fun b => X b ∨ b = g) (w2.setCell ⟨ab, 0, none⟩ (.slice (some ⟨g, 0, none⟩) (A.length + 1) cap)) g (A ++ [nd]) := by
  have obn : (Value.slice (some ⟨nb, 0, none⟩) A.length cap0).ownBlock = some nb := rfl
  have hln : nb < w.heap.size := h0.xlt nb h0.ar.xn
  have hlaw : ab < w.heap.size := h0.ar.la
  have e2 : Ext w.heap.size (fun b => b = ab ∨ b = nb) w w2 := (Ext.of_below hb _).grown hgrow hb.size (fun k e => Or.inr (Or.inr (by rw [obn] at e; cases e; rfl)))
  have e3 : Ext w.heap.size (fun b => b = ab ∨ b = nb) w (w2.setCell ⟨ab, 0, none⟩ (.slice (some ⟨g, 0, none⟩) (A.length + 1) cap)) := e2.setCell (Or.inr (Or.inl rfl)) _
  have hsub : ∀ b, b < w.heap.size → ((X b ∨ b = g) ↔ X b) := fun b hb => ⟨fun h => h.elim id (fun e => by
    rcases hat with h | h
    · rw [e, ← h]; exact h0.ar.xn
    · omega), Or.inl⟩
  have hne : ab ≠ g := fun e => by
    rcases hat with h | h
    · exact h0.ar.ne (e.trans h.symm)
    · omega
  have turn : ∀ {α : Type} {enc : α → Value} {v : Value} {l : List α}, Seq enc X w v l → Seq enc (fun b => X b ∨ b = g) (w2.setCell ⟨ab, 0, none⟩ (.slice (some ⟨g, 0, none⟩) (A.length + 1) cap)) v l := by
    intro α enc v l s
    obtain ⟨ad, cap, rfl, h1, h2, h3⟩ := s
    refine ⟨ad, cap, rfl, h1, h2, fun hl => ?_⟩
    obtain ⟨q, o, rfl, hx, hc⟩ := h3 hl
    have hq : q < w.heap.size := cell_lt (hc 0 (List.length_pos_iff.2 hl))
    refine ⟨q, o, rfl, fun x => hx ((hsub q hq).1 x), fun j hj => ?_⟩
    rw [e3.cell (p := ⟨q, o + j, none⟩) hq (fun y => hx (by
      rcases y with y | y
      · rw [show q = ab from y]; exact h0.ar.xa
      · rw [show q = nb from y]; exact h0.ar.xn))]
    exact hc j hj
  have er := h0.ar.er
  obtain ⟨er1, tt, vv, er2⟩ := er
  have l1 := cell_lt er2
  refine ⟨⟨⟨wf_snoc h0.ar.wf hok hnew, by simp; omega, Or.inl h0.ar.xa, Or.inr rfl, hne, ⟨fun h => er1 ((hsub _ l1).1 h), tt, vv, ?_⟩, cap, S ++ [(sv, kv)], ?_, by simp [hS], ?_, ?_⟩, ?_⟩, ⟨[nd], rfl⟩, e3, hat.imp (fun e => e.symm) id, hsub⟩
  · rw [e3.cell (p := ⟨2, 0, none⟩) l1 (fun y => er1 (by
      rcases y with y | y
      · rw [show 2 = ab from y]; exact h0.ar.xa
      · rw [show 2 = nb from y]; exact h0.ar.xn))]
    exact er2
  · have h2 : w2.heap[ab]? = w1.heap[ab]? := hgrow.block ab hla (fun e => h0.ar.ne (by rw [obn] at e; exact Option.some.inj e))
    simp only [World.setCell, Array.getElem?_modify, h2, hab]
    simp
  · have e4 : Ext w2.heap.size (fun b => b = ab) w2 (w2.setCell ⟨ab, 0, none⟩ (.slice (some ⟨g, 0, none⟩) (A.length + 1) cap)) := Ext.setCell (X := fun b => b = ab) (p := ⟨ab, 0, none⟩) (Ext.refl _ _ _) (Or.inr rfl) _
    have := ownsRow_ext hown e4 (fun g' hg' e => hne (by
      have : (Value.slice (some ⟨g, 0, none⟩) (A.length + 1) cap).ownBlock = some g := rfl
      rw [this] at hg'
      cases hg'
      exact e.symm))
    rw [rowOf_append A S [nd] [(sv, kv)] hS]
    simpa [rowOf] using this
  · intro i hi hi'
    by_cases hlt' : i < A.length
    · have e5 : (A ++ [nd])[i] = A[i] := List.getElem_append_left hlt'
      have e6 : (S ++ [(sv, kv)])[i] = S[i]'(by omega) := List.getElem_append_left (by omega)
      rw [e5, e6]
      exact ⟨turn (hseq i hlt' (by omega)).1, turn (hseq i hlt' (by omega)).2⟩
    · have hil : i = A.length := by simp at hi; omega
      subst hil
      have e5 : (A ++ [nd])[A.length] = nd := by simp
      have e6 : (S ++ [(sv, kv)])[A.length] = (sv, kv) := by simp [← hS]
      rw [e5, e6]
      exact ⟨turn hk, turn hs⟩
  · intro z hz
    rw [Deep.nblk_setCell]
    rcases hz with hz | hz
    · exact Nat.lt_of_lt_of_le (h0.xlt z hz) e2.size
    · rw [hz]; exact hlt
end Go.Proofs.Qxb6500848aGreatDoor
