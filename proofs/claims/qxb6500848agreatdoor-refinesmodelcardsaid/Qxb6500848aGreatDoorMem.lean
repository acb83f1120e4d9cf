/-
  What lies in memory: frames, lists behind slices, the arena.
-/
import Derived.Test.Qxb6500848aGreatDoorPlain2
import Derived.Test.Qxb6500848aGreatDoorProg
import Derived.WalkKit
import Derived.Below
import Derived.Deep.Draws
namespace Go.Proofs.Qxb6500848aGreatDoor
open Go.RowKit Pl

/-- As 'Below', but the blocks of X may have turned. -/
structure Ext (B : Nat) (X : Nat → Prop) (w w' : World) : Prop where
  os : w'.os = w.os
  tape : w'.tape = w.tape
  output : w'.output = w.output
  size : w.heap.size ≤ w'.heap.size
  block : ∀ k, k < B → ¬ X k → w'.heap[k]? = w.heap[k]?

theorem Ext.refl (B : Nat) (X : Nat → Prop) (w : World) : Ext B X w w := ⟨rfl, rfl, rfl, Nat.le_refl _, fun _ _ _ => rfl⟩
theorem Ext.of_below {B : Nat} {w w' : World} (h : Below B w w') (X : Nat → Prop) : Ext B X w w' := ⟨h.os, h.tape, h.output, h.size, fun k hk _ => h.block k hk⟩
theorem Ext.below {B : Nat} {w w' : World} (h : Ext B (fun _ => False) w w') : Below B w w' := ⟨h.os, h.tape, h.output, h.size, fun k hk => h.block k hk id⟩
theorem Ext.below' {B B' : Nat} {X : Nat → Prop} {w w' : World} (h : Ext B X w w') (hB : B' ≤ B) (hX : ∀ k, k < B' → ¬ X k) : Below B' w w' :=
  ⟨h.os, h.tape, h.output, h.size, fun k hk => h.block k (Nat.lt_of_lt_of_le hk hB) (hX k hk)⟩
theorem Ext.trans {B B' : Nat} {X Y : Nat → Prop} {a b c : World} (h : Ext B X a b) (k : Ext B' Y b c) (hB : B ≤ B') (hY : ∀ i, i < B → Y i → X i) : Ext B X a c :=
  ⟨k.os.trans h.os, k.tape.trans h.tape, k.output.trans h.output, Nat.le_trans h.size k.size,
    fun i hi hx => (k.block i (Nat.lt_of_lt_of_le hi hB) (fun y => hx (hY i hi y))).trans (h.block i hi hx)⟩
theorem Ext.mono {B B' : Nat} {X Y : Nat → Prop} {w w' : World} (h : Ext B X w w') (hB : B' ≤ B) (hX : ∀ i, i < B' → X i → Y i) : Ext B' Y w w' :=
  ⟨h.os, h.tape, h.output, h.size, fun k hk hy => h.block k (Nat.lt_of_lt_of_le hk hB) (fun x => hy (hX k hk x))⟩
theorem Ext.andThen {B B' : Nat} {X : Nat → Prop} {a b c : World} (h : Ext B X a b) (k : Below B' b c) (hB : B ≤ B') : Ext B X a c :=
  h.trans (Ext.of_below k X) hB (fun _ _ x => x)
theorem Ext.alloc {B : Nat} {X : Nat → Prop} {a w : World} (h : Ext B X a w) (hB : B ≤ w.heap.size) (o : Obj) : Ext B X a (w.alloc o) :=
  h.andThen (Below.alloc (Below.refl _ _) hB o) (Nat.le_refl _)
theorem Ext.drewN {B : Nat} {X : Nat → Prop} {a w : World} (h : Ext B X a w) (n : Nat) : Ext B X a (w.drewN n) := ⟨h.os, h.tape, h.output, h.size, h.block⟩
theorem Ext.setCell {B : Nat} {X : Nat → Prop} {a w : World} (h : Ext B X a w) {p : Addr} (hp : B ≤ p.block ∨ X p.block) (u : Value) : Ext B X a (w.setCell p u) :=
  h.trans (B' := B) (Y := fun k => k = p.block) ⟨rfl, rfl, rfl, by simp [World.setCell], fun k _ hk => Below.heap_setCell _ _ _ _ hk⟩ (Nat.le_refl _)
    (fun i hi e => by rcases hp with hp | hp; · omega
                      · rw [e]; exact hp)
theorem Ext.grown {B : Nat} {X : Nat → Prop} {a w w' : World} {row : Option Nat} (h : Ext B X a w) (hg : w.grownBy w' row) (hB : B ≤ w.heap.size) (hr : ∀ k, row = some k → B ≤ k ∨ X k) : Ext B X a w' :=
  h.trans (B' := B) (Y := fun k => row = some k) ⟨hg.os, hg.tape, hg.output, hg.size, fun k hk hn => hg.block k (by omega) (fun e => hn e.symm)⟩ (Nat.le_refl _)
    (fun i hi e => by rcases hr i e with hp | hp; · omega
                      · exact hp)
theorem Ext.cell {B : Nat} {X : Nat → Prop} {w w' : World} (h : Ext B X w w') {p : Addr} (hp : p.block < B) (hx : ¬ X p.block) : w'.cell? p = w.cell? p := World.cell?_of_block (w := w) (h.block p.block hp hx)

theorem cell_lt {w : World} {p : Addr} {v : Value} (h : w.cell? p = some v) : p.block < w.heap.size := by
  by_cases hc : p.block < w.heap.size
  · exact hc
  · simp [World.cell?, hc] at h
theorem heap_lt {w : World} {b : Nat} {o : Obj} (h : w.heap[b]? = some o) : b < w.heap.size := (Array.getElem?_eq_some_iff.1 h).1

/-- The slice value v holds the list l, in a block outside X. -/
def Seq {α : Type} (enc : α → Value) (X : Nat → Prop) (w : World) (v : Value) (l : List α) : Prop :=
  ∃ (ad : Option Addr) (cap : Nat), v = .slice ad l.length cap ∧ l.length ≤ cap ∧ cap ≤ maxLen ∧
    (l ≠ [] → ∃ g o, ad = some ⟨g, o, none⟩ ∧ ¬ X g ∧ ∀ j (h : j < l.length), w.cell? ⟨g, o + j, none⟩ = some (enc l[j]))

abbrev encI : Int → Value := Value.int .i64
abbrev encW : Nat → Value := fun n => Value.int .u64 n
abbrev Ints := Seq encI
abbrev Words := Seq encW

theorem Seq.ext {α : Type} {enc : α → Value} {X Y : Nat → Prop} {B : Nat} {w w' : World} {v : Value} {l : List α} (h : Seq enc X w v l) (k : Ext B Y w w') (hB : w.heap.size ≤ B) (hY : ∀ b, b < w.heap.size → Y b → X b) : Seq enc X w' v l := by
  obtain ⟨ad, cap, rfl, h1, h2, h3⟩ := h
  refine ⟨ad, cap, rfl, h1, h2, fun hl => ?_⟩
  obtain ⟨g, o, rfl, hx, hc⟩ := h3 hl
  refine ⟨g, o, rfl, hx, fun j hj => ?_⟩
  have hlt := cell_lt (hc j hj)
  rw [k.cell (p := ⟨g, o + j, none⟩) (Nat.lt_of_lt_of_le hlt hB) (fun y => hx (hY g hlt y))]
  exact hc j hj
theorem Seq.below {α : Type} {enc : α → Value} {X : Nat → Prop} {B : Nat} {w w' : World} {v : Value} {l : List α} (h : Seq enc X w v l) (k : Below B w w') (hB : w.heap.size ≤ B) : Seq enc X w' v l :=
  h.ext (Ext.of_below k X) hB (fun _ _ x => x)
theorem Seq.more {α : Type} {enc : α → Value} {X Y : Nat → Prop} {w : World} {v : Value} {l : List α} (h : Seq enc X w v l) (hY : ∀ b, b < w.heap.size → Y b → X b) : Seq enc Y w v l := by
  obtain ⟨ad, cap, rfl, h1, h2, h3⟩ := h
  refine ⟨ad, cap, rfl, h1, h2, fun hl => ?_⟩
  obtain ⟨g, o, rfl, hx, hc⟩ := h3 hl
  have hpos : 0 < l.length := List.length_pos_iff.2 hl
  have hlt : g < w.heap.size := cell_lt (hc 0 hpos)
  exact ⟨g, o, rfl, fun y => hx (hY g hlt y), hc⟩
theorem Seq.nil {α : Type} {enc : α → Value} (X : Nat → Prop) (w : World) : Seq enc X w (.slice none 0 0) [] :=
  ⟨none, 0, rfl, Nat.le_refl _, by decide, fun h => absurd rfl h⟩

/-! ### nodes in a row -/
def ndVals (nd : Nd) (s : Value × Value) : List Value := [.int .i64 nd.kind, s.1, s.2, .int .i64 nd.lo, .int .i64 nd.hi]
def rowOf : List Nd → List (Value × Value) → List Value
  | nd :: A, s :: S => ndVals nd s ++ rowOf A S
  | _, _ => []

theorem rowOf_append : ∀ (A : List Nd) (S : List (Value × Value)) (B : List Nd) (T : List (Value × Value)), S.length = A.length → rowOf (A ++ B) (S ++ T) = rowOf A S ++ rowOf B T
  | [], S, B, T, h => by
    obtain rfl := List.length_eq_zero_iff.1 h
    simp [rowOf]
  | nd :: A, [], B, T, h => by simp at h
  | nd :: A, s :: S, B, T, h => by simp [rowOf, rowOf_append A S B T (by simpa using h)]

theorem rowOf_length : ∀ (A : List Nd) (S : List (Value × Value)), S.length = A.length → (rowOf A S).length = A.length * 5
  | [], S, h => by simp [rowOf]
  | nd :: A, [], h => by simp at h
  | nd :: A, s :: S, h => by
    have := rowOf_length A S (by simpa using h)
    simp [rowOf, ndVals, this]
    omega

theorem rowOf_get : ∀ (A : List Nd) (S : List (Value × Value)), S.length = A.length → ∀ i (h : i < A.length) (h' : i < S.length) j, j < 5 → (rowOf A S)[i * 5 + j]? = (ndVals A[i] S[i])[j]?
  | [], S, _, i, h, _, _, _ => by simp at h
  | nd :: A, [], hl, _, _, _, _, _ => by simp at hl
  | nd :: A, s :: S, hl, 0, _, _, j, hj => by
    simp only [rowOf, List.getElem_cons_zero]
    rw [List.getElem?_append_left (by simp [ndVals]; omega)]
    simp
  | nd :: A, s :: S, hl, i + 1, h, h', j, hj => by
    simp only [rowOf, List.getElem_cons_succ]
    rw [List.getElem?_append_right (by simp [ndVals]; omega)]
    have := rowOf_get A S (by simpa using hl) i (by simpa using h) (by simpa using h') j hj
    rw [← this]
    congr 1
    simp [ndVals]
    omega

/-- The arena behind block ab; its nodes lie in block nb; the blocks that are ever written are in X. -/
structure Ar (X : Nat → Prop) (w : World) (ab nb : Nat) (lim : Int) (A : List Nd) : Prop where
  wf : Wf A
  len : A.length ≤ 65536
  xa : X ab
  xn : X nb
  ne : ab ≠ nb
  er : ¬ X 2 ∧ ∃ t v, w.cell? ⟨2, 0, none⟩ = some (.iface t v)
  ex : ∃ cap S, w.heap[ab]? = some (.cells #[.slice (some ⟨nb, 0, none⟩) A.length cap, .int .i64 lim] 113 (0, 0)) ∧ S.length = A.length ∧
    w.ownsRow 0 110 5 (.slice (some ⟨nb, 0, none⟩) A.length cap) A.length (rowOf A S) ∧
    ∀ i (h : i < A.length) (h' : i < S.length), Ints X w S[i].2 A[i].kids ∧ Words X w S[i].1 A[i].bits

theorem Ar.keep {X Y : Nat → Prop} {B : Nat} {w w' : World} {ab nb : Nat} {lim : Int} {A : List Nd} (h : Ar X w ab nb lim A) (k : Ext B Y w w') (hB : w.heap.size ≤ B) (hY : ∀ b, b < w.heap.size → Y b → X b ∧ b ≠ ab ∧ b ≠ nb) : Ar X w' ab nb lim A := by
  obtain ⟨cap, S, h1, h2, ⟨h3, h4⟩, h5⟩ := h.ex
  have la := heap_lt h1
  have her : ¬ X 2 ∧ ∃ t v, w'.cell? ⟨2, 0, none⟩ = some (.iface t v) := by
    obtain ⟨e1, t, v, e2⟩ := h.er
    have l1 := cell_lt e2
    exact ⟨e1, t, v, (k.cell (p := ⟨2, 0, none⟩) (Nat.lt_of_lt_of_le l1 hB) (fun y => e1 (hY 2 l1 y).1)).trans e2⟩
  refine ⟨h.wf, h.len, h.xa, h.xn, h.ne, her, cap, S, ?_, h2, ⟨h3, ?_⟩, fun i hi hi' => ⟨(h5 i hi hi').1.ext k hB (fun b hb y => (hY b hb y).1), (h5 i hi hi').2.ext k hB (fun b hb y => (hY b hb y).1)⟩⟩
  · rw [k.block ab (Nat.lt_of_lt_of_le la hB) (fun y => (hY ab la y).2.1 rfl)]; exact h1
  · rcases h4 with h4 | ⟨g, cap', cur, e, hb, hh, r⟩
    · left; exact h4
    · right
      refine ⟨g, cap', cur, e, hb, ?_, r⟩
      have eg : g = nb := by simp only [Value.slice.injEq, Option.some.injEq, Addr.mk.injEq] at e; exact e.1.1.symm
      subst eg
      have lg := heap_lt hh
      rw [k.block g (Nat.lt_of_lt_of_le lg hB) (fun y => (hY g lg y).2.2 rfl)]; exact hh

theorem Ar.below {X : Nat → Prop} {B : Nat} {w w' : World} {ab nb : Nat} {lim : Int} {A : List Nd} (h : Ar X w ab nb lim A) (k : Below B w w') (hB : w.heap.size ≤ B) : Ar X w' ab nb lim A :=
  h.keep (Ext.of_below k (fun _ => False)) hB (fun _ _ y => y.elim)

theorem Ar.more {X Y : Nat → Prop} {w : World} {ab nb : Nat} {lim : Int} {A : List Nd} (h : Ar X w ab nb lim A) (hX : ∀ b, X b → Y b) (hY : ∀ b, b < w.heap.size → Y b → X b) : Ar Y w ab nb lim A := by
  obtain ⟨cap, S, h1, h2, h3, h5⟩ := h.ex
  have her : ¬ Y 2 ∧ ∃ t v, w.cell? ⟨2, 0, none⟩ = some (.iface t v) := by
    obtain ⟨e1, t, v, e2⟩ := h.er
    exact ⟨fun y => e1 (hY _ (cell_lt e2) y), t, v, e2⟩
  exact ⟨h.wf, h.len, hX _ h.xa, hX _ h.xn, h.ne, her, cap, S, h1, h2, h3, fun i hi hi' => ⟨(h5 i hi hi').1.more hY, (h5 i hi hi').2.more hY⟩⟩

/-- What a walk reads of node x. -/
structure NodeCells (X : Nat → Prop) (w : World) (nb : Nat) (x : Int) (nd : Nd) (sv kv : Value) : Prop where
  c0 : w.cell? ⟨nb, x.toNat * 5, none⟩ = some (.int .i64 nd.kind)
  c1 : w.cell? ⟨nb, x.toNat * 5 + 1, none⟩ = some sv
  c2 : w.cell? ⟨nb, x.toNat * 5 + 2, none⟩ = some kv
  c3 : w.cell? ⟨nb, x.toNat * 5 + 3, none⟩ = some (.int .i64 nd.lo)
  c4 : w.cell? ⟨nb, x.toNat * 5 + 4, none⟩ = some (.int .i64 nd.hi)
  kids : Ints X w kv nd.kids
  set : Words X w sv nd.bits

theorem Ar.node {X : Nat → Prop} {w : World} {ab nb : Nat} {lim : Int} {A : List Nd} (h : Ar X w ab nb lim A) :
    ∃ cap, w.cell? ⟨ab, 0, none⟩ = some (.slice (some ⟨nb, 0, none⟩) A.length cap) ∧ w.cell? ⟨ab, 1, none⟩ = some (.int .i64 lim) ∧ ∀ x, Valid A x → ∃ sv kv, NodeCells X w nb x (nodeAt A x) sv kv := by
  obtain ⟨cap, S, h1, h2, ⟨h3, h4⟩, h5⟩ := h.ex
  refine ⟨cap, by simp [World.cell?, h1], by simp [World.cell?, h1], fun x hx => ?_⟩
  rcases h4 with ⟨h4, _⟩ | ⟨g, cap', cur, e, hb, hh, r1, r2, r3, r4⟩
  · cases h4
  · have eg : g = nb := by simp only [Value.slice.injEq, Option.some.injEq, Addr.mk.injEq] at e; exact e.1.1.symm
    subst eg
    have hS : x.toNat < S.length := by rw [h2]; exact hx.2
    have en : nodeAt A x = A[x.toNat]'hx.2 := getD_lt hx.2 _
    have hc : ∀ j, j < 5 → w.cell? ⟨g, x.toNat * 5 + j, none⟩ = (ndVals (nodeAt A x) S[x.toNat])[j]? := by
      intro j hj
      rw [en, ← rowOf_get A S h2 x.toNat hx.2 hS j hj, ← r4, List.getElem?_take_of_lt (by have := hx.2; omega)]
      simp [World.cell?, hh]
    refine ⟨S[x.toNat].1, S[x.toNat].2, hc 0 (by omega), hc 1 (by omega), hc 2 (by omega), hc 3 (by omega), hc 4 (by omega), ?_, ?_⟩
    · rw [en]; exact (h5 _ hx.2 hS).1
    · rw [en]; exact (h5 _ hx.2 hS).2
end Go.Proofs.Qxb6500848aGreatDoor
