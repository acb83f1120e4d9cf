/-
  The engine's other tables in memory.
-/
import Derived.Test.Qxb6500848aGreatDoorPlainP
import Derived.Test.Qxb6500848aGreatDoorMach2
import Derived.Test.Qxb6500848aGreatDoorBuildB
namespace Go.Proofs.Qxb6500848aGreatDoor
open Go.RowKit Pl Go.Maps
set_option maxRecDepth 100000

/-- The table of math/bits. -/
def tabL : List Int := [0, 1, 56, 2, 57, 49, 28, 3, 61, 58, 42, 50, 38, 29, 17, 4, 62, 47, 59, 36, 45, 43, 51, 22, 53, 39, 33, 30, 24, 18, 12, 5, 63, 55, 48, 27, 60, 41, 37, 16, 46, 35, 44, 21, 52, 32, 23, 11, 54, 26, 40, 15, 34, 20, 31, 10, 25, 14, 19, 9, 13, 8, 7, 6]
def tabC (j : Nat) : Int := tabL.getD j 0
theorem tabC_ok : TabOk tabC := by
  have h : ∀ k : Fin 64, tabC (2 ^ k.1 * 285870213051353865 % 18446744073709551616 / 288230376151711744) = (k.1 : Int) := by decide
  exact fun k hk => h ⟨k, hk⟩
theorem tabC_bd : ∀ j, j < 64 → 0 ≤ tabC j ∧ tabC j ≤ 255 := by
  have h : ∀ k : Fin 64, 0 ≤ tabC k.1 ∧ tabC k.1 ≤ 255 := by decide
  exact fun k hk => h ⟨k, hk⟩

/-! ### a map turns: nothing with cells does -/
def IsMap (w : World) (m : Nat) : Prop := ∃ es n, w.heap[m]? = some (.map es n)
theorem IsMap.ne {w : World} {m : Nat} (h : IsMap w m) {p : Addr} {v : Value} (hc : w.cell? p = some v) : p.block ≠ m := fun e => by
  obtain ⟨es, n, h⟩ := h
  rw [← e] at h
  simp [World.cell?, h] at hc
theorem IsMap.nb {w : World} {m : Nat} (h : IsMap w m) {b : Nat} {cs : Array Value} {t : TypeId} {fr : Nat × Nat} (hc : w.heap[b]? = some (.cells cs t fr)) : b ≠ m := fun e => by
  obtain ⟨es, n, h⟩ := h
  rw [← e, hc] at h
  cases h
theorem Mp.isMap {K : TypeId} {w : World} {b : Nat} {get : Lit → Value} {ks : List Lit} (h : Mp K w b get ks) : IsMap w b := by
  obtain ⟨D, ⟨es, clock, hb, r⟩, r2⟩ := h
  exact ⟨es, clock, hb⟩

/-- Maps only turn. -/
structure Turn (w w' : World) : Prop where
  at_ : ∃ Z : Nat → Prop, Ext w.heap.size Z w w' ∧ ∀ m, Z m → IsMap w m
theorem Turn.one {w w' : World} {m : Nat} (e : Ext w.heap.size (fun b => b = m) w w') (h : IsMap w m) : Turn w w' := ⟨_, e, fun k hk => by rw [hk]; exact h⟩
theorem Turn.below {w w' : World} (h : Below w.heap.size w w') : Turn w w' := ⟨fun _ => False, Ext.of_below h _, fun _ h => h.elim⟩
theorem Turn.size {w w' : World} (h : Turn w w') : w.heap.size ≤ w'.heap.size := by obtain ⟨Z, e, _⟩ := h; exact e.size
theorem Turn.cell {w w' : World} (h : Turn w w') {p : Addr} {v : Value} (hc : w.cell? p = some v) : w'.cell? p = some v := by
  obtain ⟨Z, e, hz⟩ := h
  exact (e.cell (cell_lt hc) (fun q => (hz _ q).ne hc rfl)).trans hc
theorem Turn.block {w w' : World} (h : Turn w w') {b : Nat} {cs : Array Value} {t : TypeId} {fr : Nat × Nat} (hc : w.heap[b]? = some (.cells cs t fr)) : w'.heap[b]? = some (.cells cs t fr) := by
  obtain ⟨Z, e, hz⟩ := h
  exact (e.block b (heap_lt hc) (fun q => (hz _ q).nb hc rfl)).trans hc
theorem Turn.seq {α : Type} {enc : α → Value} {X : Nat → Prop} {w w' : World} (h : Turn w w') {v : Value} {l : List α} (s : Seq enc X w v l) : Seq enc X w' v l := by
  obtain ⟨ad, cap, rfl, h1, h2, h3⟩ := s
  refine ⟨ad, cap, rfl, h1, h2, fun hl => ?_⟩
  obtain ⟨g, o, rfl, hx, hc⟩ := h3 hl
  exact ⟨g, o, rfl, hx, fun j hj => h.cell (hc j hj)⟩
theorem Turn.sets {X : Nat → Prop} {w w' : World} (h : Turn w w') {v : Value} {F : List (List Nat)} (s : Sets X w v F) : Sets X w' v F := by
  obtain ⟨fs, h1, h2, h3⟩ := s
  exact ⟨fs, h1, h.seq h2, fun i hi hi' => h.seq (h3 i hi hi')⟩
theorem Turn.trans {w w1 w2 : World} (h : Turn w w1) (k : Ext w1.heap.size (fun _ => False) w1 w2) : Turn w w2 := by
  obtain ⟨Z, e, hz⟩ := h
  exact ⟨Z, e.andThen k.below e.size, hz⟩

theorem Ar.turn {X : Nat → Prop} {w w' : World} {ab nb : Nat} {lim : Int} {A : List Nd} (h : Ar X w ab nb lim A) (k : Turn w w') : Ar X w' ab nb lim A := by
  obtain ⟨cap, S, h1, h2, ⟨h3, h4⟩, h5⟩ := h.ex
  obtain ⟨e1, t, v, e2⟩ := h.er
  refine ⟨h.wf, h.len, h.xa, h.xn, h.ne, ⟨e1, t, v, k.cell e2⟩, cap, S, k.block h1, h2, ⟨h3, ?_⟩, fun i hi hi' => ⟨k.seq (h5 i hi hi').1, k.seq (h5 i hi hi').2⟩⟩
  rcases h4 with h4 | ⟨g, cap', cur, e, hb, hh, r⟩
  · exact Or.inl h4
  · exact Or.inr ⟨g, cap', cur, e, hb, k.block hh, r⟩

theorem En.turn {X : Nat → Prop} {w w' : World} {eb mb ab nb m : Nat} {lim : Int} {A : List Nd} (h : En X w eb mb ab nb lim A) (e : Ext w.heap.size (fun b => b = m) w w') (hm : IsMap w m) (hne : mb ≠ m) : En X w' eb mb ab nb lim A := by
  have k := Turn.one e hm
  obtain ⟨a, b, c, he⟩ := h.eng
  obtain ⟨get, ks, hM, hk⟩ := h.memo
  exact ⟨⟨h.st.ar.turn k, fun z hz => Nat.lt_of_lt_of_le (h.st.xlt z hz) k.size⟩, ⟨a, b, c, k.block he⟩, h.xe, h.xm, h.ma, h.mn, get, ks, hM.ext e h.lm hne, hk⟩

/-! ### the tables -/
structure CutAt (X : Nat → Prop) (w : World) (tb : Nat) (P : List (List Nat)) : Prop where
  blk : ∃ bv rv, w.heap[tb]? = some (.cells #[bv, rv] 51 (0, 0)) ∧ Sets X w bv P ∧ Ints X w rv (P.map (minF tabC))
  nx : ¬ X tb

structure Ax (X : Nat → Prop) (w : World) (eb mb : Nat) (A : List Nd) : Prop where
  eng : ∃ a b c, w.heap[eb]? = some (.cells #[a, b, c, .map (some (mb + 1)), .map (some (mb + 2)), .map (some (mb + 3))] 118 (0, 0))
  n1 : ¬ X (mb + 1)
  n2 : ¬ X (mb + 2)
  n3 : ¬ X (mb + 3)
  cu : ∃ get ks, Mp 28 w (mb + 2) get ks ∧ ∀ k ∈ ks, ∃ x tb P, k = IK x ∧ Valid A x ∧ get k = .pointer (some ⟨tb, 0, none⟩) ∧ CutAt X w tb P ∧ IsCut tabC A x P ∧ P.length ≤ 196608
  pa : ∃ get ks, Mp 159 w (mb + 1) get ks ∧ ∀ k ∈ ks, ∃ x c l, keyOf Tryz.prog 159 (.agg #[.int .i64 x, .int .i64 c]) = some k ∧ Valid A x ∧ (0 ≤ c ∧ c ≤ 196607) ∧ Ints X w (get k) l ∧ Nz (get k) ∧ Par A c x l
  pn : ∃ get ks, Mp 28 w (mb + 3) get ks ∧ ∀ k ∈ ks, ∃ x b, k = IK x ∧ Valid A x ∧ get k = .bool b ∧ (b = true ↔ PlainR A x)

theorem Ax.m1 {X : Nat → Prop} {w : World} {eb mb : Nat} {A : List Nd} (h : Ax X w eb mb A) : IsMap w (mb + 1) := by obtain ⟨_, _, m, _⟩ := h.pa; exact m.isMap
theorem Ax.m2 {X : Nat → Prop} {w : World} {eb mb : Nat} {A : List Nd} (h : Ax X w eb mb A) : IsMap w (mb + 2) := by obtain ⟨_, _, m, _⟩ := h.cu; exact m.isMap
theorem Ax.m3 {X : Nat → Prop} {w : World} {eb mb : Nat} {A : List Nd} (h : Ax X w eb mb A) : IsMap w (mb + 3) := by obtain ⟨_, _, m, _⟩ := h.pn; exact m.isMap

theorem Seq.keepX {α : Type} {enc : α → Value} {X X' : Nat → Prop} {w w' : World} {v : Value} {l : List α} (s : Seq enc X w v l) (e : Ext w.heap.size X w w') (sub : ∀ b, b < w.heap.size → (X' b ↔ X b)) : Seq enc X' w' v l := by
  obtain ⟨ad, cap, rfl, h1, h2, h3⟩ := s
  refine ⟨ad, cap, rfl, h1, h2, fun hl => ?_⟩
  obtain ⟨g, o, rfl, hx, hc⟩ := h3 hl
  have lg : g < w.heap.size := cell_lt (hc 0 (List.length_pos_iff.2 hl))
  exact ⟨g, o, rfl, fun x => hx ((sub g lg).1 x), fun j hj => (e.cell (p := ⟨g, o + j, none⟩) lg hx).trans (hc j hj)⟩
theorem Sets.keepX {X X' : Nat → Prop} {w w' : World} {v : Value} {F : List (List Nat)} (s : Sets X w v F) (e : Ext w.heap.size X w w') (sub : ∀ b, b < w.heap.size → (X' b ↔ X b)) : Sets X' w' v F := by
  obtain ⟨fs, h1, h2, h3⟩ := s
  exact ⟨fs, h1, h2.keepX e sub, fun i hi hi' => (h3 i hi hi').keepX e sub⟩
theorem CutAt.lt {X : Nat → Prop} {w : World} {tb : Nat} {P : List (List Nat)} (h : CutAt X w tb P) : tb < w.heap.size := by
  obtain ⟨_, _, h, _⟩ := h.blk
  exact heap_lt h
theorem CutAt.keepX {X X' : Nat → Prop} {w w' : World} {tb : Nat} {P : List (List Nat)} (h : CutAt X w tb P) (e : Ext w.heap.size X w w') (sub : ∀ b, b < w.heap.size → (X' b ↔ X b)) : CutAt X' w' tb P := by
  have lt := h.lt
  obtain ⟨bv, rv, h1, h2, h3⟩ := h.blk
  exact ⟨⟨bv, rv, (e.block tb lt h.nx).trans h1, h2.keepX e sub, h3.keepX e sub⟩, fun x => h.nx ((sub tb lt).1 x)⟩
theorem CutAt.turn {X : Nat → Prop} {w w' : World} {tb : Nat} {P : List (List Nat)} (h : CutAt X w tb P) (k : Turn w w') : CutAt X w' tb P := by
  obtain ⟨bv, rv, h1, h2, h3⟩ := h.blk
  exact ⟨⟨bv, rv, k.block h1, k.sets h2, k.seq h3⟩, h.nx⟩

/-- Only blocks of X turn. -/
theorem Ax.keep {X X' : Nat → Prop} {w w' : World} {eb mb : Nat} {A A' : List Nd} (h : Ax X w eb mb A) (hxe : ¬ X eb) (e : Ext w.heap.size X w w') (sub : ∀ b, b < w.heap.size → (X' b ↔ X b)) (le : Le A A') (hA : Wf A) (hA' : Wf A') : Ax X' w' eb mb A' := by
  obtain ⟨a, b, c, he⟩ := h.eng
  obtain ⟨g1, k1, M1, H1⟩ := h.cu
  obtain ⟨g2, k2, M2, H2⟩ := h.pa
  obtain ⟨g3, k3, M3, H3⟩ := h.pn
  refine ⟨⟨a, b, c, (e.block eb (heap_lt he) hxe).trans he⟩, fun x => h.n1 ((sub _ M2.lt).1 x), fun x => h.n2 ((sub _ M1.lt).1 x), fun x => h.n3 ((sub _ M3.lt).1 x), ⟨g1, k1, M1.ext e M1.lt h.n2, fun k hk => ?_⟩, ⟨g2, k2, M2.ext e M2.lt h.n1, fun k hk => ?_⟩, ⟨g3, k3, M3.ext e M3.lt h.n3, fun k hk => ?_⟩⟩
  · obtain ⟨x, tb, P, q1, q2, q3, q4, q5, q6⟩ := H1 k hk
    exact ⟨x, tb, P, q1, le.valid q2, q3, q4.keepX e sub, q5.le hA le q2, q6⟩
  · obtain ⟨x, c, l, q1, q2, q3, q4, q5⟩ := H2 k hk
    exact ⟨x, c, l, q1, le.valid q2, q3, q4.keepX e sub, q5.1, q5.2.le hA hA' le q2⟩
  · obtain ⟨x, b, q1, q2, q3, q4⟩ := H3 k hk
    exact ⟨x, b, q1, le.valid q2, q3, q4.trans (PlainR.le hA le q2).symm⟩

/-! ### growth -/
def Own (mb b : Nat) : Prop := mb ≤ b ∧ b ≤ mb + 3

structure GrX (X : Nat → Prop) (w : World) (eb mb ab nb : Nat) (lim : Int) (A : List Nd) (X' : Nat → Prop) (w' : World) (nb' : Nat) (A' : List Nd) : Prop where
  en : En X' w' eb mb ab nb' lim A'
  ax : Ax X' w' eb mb A'
  le : Le A A'
  ext : Ext w.heap.size (fun b => b = ab ∨ b = nb ∨ Own mb b) w w'
  nbs : nb' = nb ∨ w.heap.size ≤ nb'
  sub : ∀ b, b < w.heap.size → (X' b ↔ X b)

/-- The engine with all its tables. -/
structure Es (X : Nat → Prop) (w : World) (eb mb ab nb : Nat) (lim : Int) (A : List Nd) : Prop where
  en : En X w eb mb ab nb lim A
  ax : Ax X w eb mb A

theorem GrX.es {X X' : Nat → Prop} {w w' : World} {eb mb ab nb nb' : Nat} {lim : Int} {A A' : List Nd} (h : GrX X w eb mb ab nb lim A X' w' nb' A') : Es X' w' eb mb ab nb' lim A' := ⟨h.en, h.ax⟩

theorem GrX.refl {X : Nat → Prop} {w : World} {eb mb ab nb : Nat} {lim : Int} {A : List Nd} (h : Es X w eb mb ab nb lim A) : GrX X w eb mb ab nb lim A X w nb A :=
  ⟨h.en, h.ax, Le.refl _, Ext.refl _ _ _, Or.inl rfl, fun _ _ => Iff.rfl⟩

theorem GrE.toX {X X' : Nat → Prop} {w w' : World} {eb mb ab nb nb' : Nat} {lim : Int} {A A' : List Nd} (g : GrE X w eb mb ab nb lim A X' w' nb' A') (h : Es X w eb mb ab nb lim A) : GrX X w eb mb ab nb lim A X' w' nb' A' :=
  ⟨g.en, h.ax.keep h.en.xe (g.ext.mono (Nat.le_refl _) (fun i _ e => by
    rcases e with e | e | e
    · rw [e]; exact h.en.st.ar.xa
    · rw [e]; exact h.en.st.ar.xn
    · rw [e]; exact h.en.xm)) g.sub g.le h.en.st.ar.wf g.en.st.ar.wf, g.le, g.ext.mono (Nat.le_refl _) (fun i _ e => by
    rcases e with e | e | e
    · exact Or.inl e
    · exact Or.inr (Or.inl e)
    · exact Or.inr (Or.inr ⟨by omega, by omega⟩)), g.nbs, g.sub⟩

theorem Es.below {X : Nat → Prop} {w w' : World} {eb mb ab nb : Nat} {lim : Int} {A : List Nd} (h : Es X w eb mb ab nb lim A) (k : Below w.heap.size w w') : Es X w' eb mb ab nb lim A :=
  (GrE.toX ((GrE.refl h.en).below k (Nat.le_refl _)) h).es

theorem GrX.trans {X X' X'' : Nat → Prop} {w w1 w2 : World} {eb mb ab nb nb' nb'' : Nat} {lim : Int} {A A' A'' : List Nd} (h : GrX X w eb mb ab nb lim A X' w1 nb' A') (k : GrX X' w1 eb mb ab nb' lim A' X'' w2 nb'' A'') : GrX X w eb mb ab nb lim A X'' w2 nb'' A'' := by
  refine ⟨k.en, k.ax, h.le.trans k.le, h.ext.trans k.ext h.ext.size (fun i hi e => by
    rcases e with e | e | e
    · exact Or.inl e
    · rcases h.nbs with e2 | e2
      · exact Or.inr (Or.inl (e.trans e2))
      · omega
    · exact Or.inr (Or.inr e)), ?_, fun b hb => (k.sub b (Nat.lt_of_lt_of_le hb h.ext.size)).trans (h.sub b hb)⟩
  rcases k.nbs with e | e
  · rcases h.nbs with e2 | e2
    · exact Or.inl (e.trans e2)
    · exact Or.inr (by omega)
  · exact Or.inr (Nat.le_trans h.ext.size e)

theorem GrX.below {X X' : Nat → Prop} {w w1 w2 : World} {eb mb ab nb nb' : Nat} {lim : Int} {A A' : List Nd} (h : GrX X w eb mb ab nb lim A X' w1 nb' A') (k : Below w1.heap.size w1 w2) : GrX X w eb mb ab nb lim A X' w2 nb' A' :=
  ⟨(h.es.below k).en, (h.es.below k).ax, h.le, h.ext.andThen k h.ext.size, h.nbs, h.sub⟩

theorem GrX.after {X X' : Nat → Prop} {w w1 w2 : World} {eb mb ab nb nb' : Nat} {lim : Int} {A A' : List Nd} (k : Below w.heap.size w w1) (h : GrX X w1 eb mb ab nb lim A X' w2 nb' A') : GrX X w eb mb ab nb lim A X' w2 nb' A' :=
  ⟨h.en, h.ax, h.le, (Ext.of_below k _).trans h.ext k.size (fun _ _ x => x), h.nbs.imp id (fun e => Nat.le_trans k.size e), fun b hb => h.sub b (Nat.lt_of_lt_of_le hb k.size)⟩

/-- A table has turned. -/
theorem GrX.turned {X : Nat → Prop} {w w' : World} {eb mb ab nb m : Nat} {lim : Int} {A : List Nd} (h : Es X w eb mb ab nb lim A) (e : Ext w.heap.size (fun b => b = m) w w') (hm : m = mb + 1 ∨ m = mb + 2 ∨ m = mb + 3) (hax : Ax X w' eb mb A) : GrX X w eb mb ab nb lim A X w' nb A := by
  have him : IsMap w m := by
    rcases hm with r | r | r
    · rw [r]; exact h.ax.m1
    · rw [r]; exact h.ax.m2
    · rw [r]; exact h.ax.m3
  exact ⟨h.en.turn e him (by omega), hax, Le.refl _, e.mono (Nat.le_refl _) (fun i _ q => Or.inr (Or.inr ⟨by omega, by omega⟩)), Or.inl rfl, fun _ _ => Iff.rfl⟩

/-- What lies outside X, and is no map, stays. -/
theorem Es.out {X : Nat → Prop} {w : World} {eb mb ab nb : Nat} {lim : Int} {A : List Nd} (h : Es X w eb mb ab nb lim A) {b : Nat} (hb : ¬ X b) (hc : ∀ m, m = mb + 1 ∨ m = mb + 2 ∨ m = mb + 3 → b ≠ m) : ¬ (b = ab ∨ b = nb ∨ Own mb b) := fun e => by
  rcases e with e | e | ⟨e1, e2⟩
  · exact hb (by rw [e]; exact h.en.st.ar.xa)
  · exact hb (by rw [e]; exact h.en.st.ar.xn)
  · by_cases e3 : b = mb
    · exact hb (by rw [e3]; exact h.en.xm)
    · exact hc b (by omega) rfl
theorem Es.map {X : Nat → Prop} {w : World} {eb mb ab nb : Nat} {lim : Int} {A : List Nd} (h : Es X w eb mb ab nb lim A) {m : Nat} (hm : m = mb + 1 ∨ m = mb + 2 ∨ m = mb + 3) : IsMap w m := by
  rcases hm with r | r | r
  · rw [r]; exact h.ax.m1
  · rw [r]; exact h.ax.m2
  · rw [r]; exact h.ax.m3
theorem GrX.cell {X X' : Nat → Prop} {w w' : World} {eb mb ab nb nb' : Nat} {lim : Int} {A A' : List Nd} (g : GrX X w eb mb ab nb lim A X' w' nb' A') (h : Es X w eb mb ab nb lim A) {p : Addr} {v : Value} (hc : w.cell? p = some v) (hx : ¬ X p.block) : w'.cell? p = some v :=
  (g.ext.cell (cell_lt hc) (h.out hx (fun _ hm => (h.map hm).ne hc))).trans hc
theorem GrX.block {X X' : Nat → Prop} {w w' : World} {eb mb ab nb nb' : Nat} {lim : Int} {A A' : List Nd} (g : GrX X w eb mb ab nb lim A X' w' nb' A') (h : Es X w eb mb ab nb lim A) {b : Nat} {cs : Array Value} {t : TypeId} {fr : Nat × Nat} (hc : w.heap[b]? = some (.cells cs t fr)) (hx : ¬ X b) : w'.heap[b]? = some (.cells cs t fr) :=
  (g.ext.block b (heap_lt hc) (h.out hx (fun _ hm => (h.map hm).nb hc))).trans hc
theorem GrX.seq {α : Type} {enc : α → Value} {X X' : Nat → Prop} {w w' : World} {eb mb ab nb nb' : Nat} {lim : Int} {A A' : List Nd} (g : GrX X w eb mb ab nb lim A X' w' nb' A') (h : Es X w eb mb ab nb lim A) {v : Value} {l : List α} (s : Seq enc X w v l) : Seq enc X' w' v l := by
  obtain ⟨ad, cap, rfl, h1, h2, h3⟩ := s
  refine ⟨ad, cap, rfl, h1, h2, fun hl => ?_⟩
  obtain ⟨b, o, rfl, hx, hc⟩ := h3 hl
  have lg : b < w.heap.size := cell_lt (hc 0 (List.length_pos_iff.2 hl))
  exact ⟨b, o, rfl, fun x => hx ((g.sub b lg).1 x), fun j hj => g.cell h (hc j hj) hx⟩
theorem GrX.sets {X X' : Nat → Prop} {w w' : World} {eb mb ab nb nb' : Nat} {lim : Int} {A A' : List Nd} (g : GrX X w eb mb ab nb lim A X' w' nb' A') (h : Es X w eb mb ab nb lim A) {v : Value} {F : List (List Nat)} (s : Sets X w v F) : Sets X' w' v F := by
  obtain ⟨fs, h1, h2, h3⟩ := s
  exact ⟨fs, h1, g.seq h h2, fun i hi hi' => g.seq h (h3 i hi hi')⟩
theorem GrX.cut {X X' : Nat → Prop} {w w' : World} {eb mb ab nb nb' : Nat} {lim : Int} {A A' : List Nd} (g : GrX X w eb mb ab nb lim A X' w' nb' A') (h : Es X w eb mb ab nb lim A) {tb : Nat} {P : List (List Nat)} (s : CutAt X w tb P) : CutAt X' w' tb P := by
  have lt := s.lt
  obtain ⟨bv, rv, h1, h2, h3⟩ := s.blk
  exact ⟨⟨bv, rv, g.block h h1 s.nx, g.sets h h2, g.seq h h3⟩, fun x => s.nx ((g.sub tb lt).1 x)⟩

theorem Mc.growX {X X' : Nat → Prop} {w w' : World} {kb eb mb ab nb nb' : Nat} {lim : Int} {A A' : List Nd} {regs : List Int} (h : Mc X w kb eb mb ab nb lim A regs) (hax : Ax X w eb mb A) (g : GrX X w eb mb ab nb lim A X' w' nb' A') : Mc X' w' kb eb mb ab nb' lim A' regs := by
  have lk := h.lk
  have hE : Es X w eb mb ab nb lim A := ⟨h.en, hax⟩
  have far : ∀ {b : Nat} {cs : Array Value} {t : TypeId} {fr : Nat × Nat}, w.heap[b]? = some (.cells cs t fr) → b ≠ ab → b ≠ nb → b ≠ mb → ¬ (b = ab ∨ b = nb ∨ Own mb b) := fun {b cs t fr} hc n1 n2 n3 e => by
    rcases e with e | e | ⟨e1, e2⟩
    · exact n1 e
    · exact n2 e
    · exact (hE.map (m := b) (by omega)).nb hc rfl
  refine ⟨g.en, (g.sub kb lk).2 h.xk, h.ka, ?_, h.km, ?_, fun r hr => (h.val r hr).le h.en.st.ar.wf g.en.st.ar.wf g.le⟩
  · rcases g.nbs with e | e
    · rw [e]; exact h.kn
    · omega
  · obtain ⟨rv, h1, h2⟩ := h.reg
    refine ⟨rv, (g.ext.block kb lk (far h1 h.ka h.kn h.km)).trans h1, ?_⟩
    rcases h2 with h2 | ⟨rb, off, cap, cells, e, xr, ⟨n1, n2, n3, n4⟩, hh, r1, r2, r3, r4⟩
    · exact Or.inl h2
    · have lr := heap_lt hh
      refine Or.inr ⟨rb, off, cap, cells, e, (g.sub rb lr).2 xr, ⟨n1, n2, ?_, n4⟩, (g.ext.block rb lr (far hh n2 n3 n4)).trans hh, r1, r2, r3, r4⟩
      rcases g.nbs with e | e
      · rw [e]; exact n3
      · omega

/-! ### a block of one's own -/
theorem Ax.more {X Y : Nat → Prop} {w : World} {eb mb : Nat} {A : List Nd} (h : Ax X w eb mb A) (hY : ∀ b, b < w.heap.size → Y b → X b) : Ax Y w eb mb A := by
  obtain ⟨a, b, c, he⟩ := h.eng
  obtain ⟨g1, k1, M1, H1⟩ := h.cu
  obtain ⟨g2, k2, M2, H2⟩ := h.pa
  obtain ⟨g3, k3, M3, H3⟩ := h.pn
  refine ⟨⟨a, b, c, he⟩, fun x => h.n1 (hY _ M2.lt x), fun x => h.n2 (hY _ M1.lt x), fun x => h.n3 (hY _ M3.lt x), ⟨g1, k1, M1, fun k hk => ?_⟩, ⟨g2, k2, M2, fun k hk => ?_⟩, ⟨g3, k3, M3, H3⟩⟩
  · obtain ⟨x, tb, P, q1, q2, q3, q4, q5, q6⟩ := H1 k hk
    refine ⟨x, tb, P, q1, q2, q3, ⟨?_, fun x => q4.nx (hY _ q4.lt x)⟩, q5, q6⟩
    obtain ⟨bv, rv, r1, ⟨fs, r2, r3, r4⟩, r5⟩ := q4.blk
    exact ⟨bv, rv, r1, ⟨fs, r2, r3.more hY, fun i hi hi' => (r4 i hi hi').more hY⟩, r5.more hY⟩
  · obtain ⟨x, c, l, q1, q2, q3, q4, q5⟩ := H2 k hk
    exact ⟨x, c, l, q1, q2, q3, q4.more hY, q5⟩

theorem Es.addNew {X : Nat → Prop} {w : World} {eb mb ab nb : Nat} {lim : Int} {A : List Nd} (h : Es X w eb mb ab nb lim A) (o : Obj) : Es (fun b => X b ∨ b = w.heap.size) (w.alloc o) eb mb ab nb lim A := by
  have hm : ∀ b, b < w.heap.size → (X b ∨ b = w.heap.size) → X b := fun b hb h => h.elim id (fun e => by omega)
  refine ⟨h.en.more (alloc_below o) (Nat.le_refl _) (fun b hb => Or.inl hb) hm (fun z hz => ?_), (h.ax.more hm).keep (fun x => h.en.xe (hm _ h.en.lb x)) (Ext.of_below (alloc_below o) _) (fun _ _ => Iff.rfl) (Le.refl _) h.en.st.ar.wf h.en.st.ar.wf⟩
  rw [Deep.nblk_alloc]
  rcases hz with hz | hz
  · have := h.en.st.xlt z hz; omega
  · omega

theorem GrX.addNew {X X' : Nat → Prop} {w w1 : World} {eb mb ab nb nb' : Nat} {lim : Int} {A A' : List Nd} (h : GrX X w eb mb ab nb lim A X' w1 nb' A') (o : Obj) : GrX X w eb mb ab nb lim A (fun b => X' b ∨ b = w1.heap.size) (w1.alloc o) nb' A' :=
  ⟨(h.es.addNew o).en, (h.es.addNew o).ax, h.le, h.ext.andThen (alloc_below o) h.ext.size, h.nbs, fun b hb => ⟨fun q => (h.sub b hb).1 (q.elim id (fun e => by have := h.ext.size; omega)), fun q => Or.inl ((h.sub b hb).2 q)⟩⟩

/-- Block D turns. -/
theorem GrX.scr {X X' : Nat → Prop} {w w1 w2 : World} {eb mb ab nb nb' D : Nat} {lim : Int} {A A' : List Nd} (h : GrX X w eb mb ab nb lim A X' w1 nb' A') (hD : X' D) (hw : w.heap.size ≤ D) (ha : D ≠ ab) (hn : D ≠ nb') (hm : D ≠ mb) (e : Ext w1.heap.size (fun b => b = D) w1 w2) : GrX X w eb mb ab nb lim A X' w2 nb' A' :=
  ⟨h.en.setCell e hD ha hn hm, h.ax.keep h.en.xe (e.mono (Nat.le_refl _) (fun i _ q => by rw [show i = D from q]; exact hD)) (fun _ _ => Iff.rfl) (Le.refl _) h.en.st.ar.wf h.en.st.ar.wf, h.le, h.ext.trans e h.ext.size (fun i hi q => by omega), h.nbs, h.sub⟩

/-- Block D is given away. -/
theorem GrX.dropped {X X' : Nat → Prop} {w w1 : World} {eb mb ab nb nb' D : Nat} {lim : Int} {A A' : List Nd} (h : GrX X w eb mb ab nb lim A X' w1 nb' A') (hw : w.heap.size ≤ D) (ha : D ≠ ab) (hn : D ≠ nb') (hm : D ≠ mb) : GrX X w eb mb ab nb lim A (fun b => X' b ∧ b ≠ D) w1 nb' A' := by
  obtain ⟨cap, S, h1, h2, h3, h5⟩ := h.en.st.ar.ex
  have hs : ∀ b, b < w1.heap.size → (X' b ∧ b ≠ D) → X' b := fun _ _ e => e.1
  exact ⟨⟨⟨⟨h.en.st.ar.wf, h.en.st.ar.len, ⟨h.en.st.ar.xa, ha.symm⟩, ⟨h.en.st.ar.xn, hn.symm⟩, h.en.st.ar.ne, ⟨fun e => h.en.st.ar.er.1 e.1, h.en.st.ar.er.2⟩, cap, S, h1, h2, h3, fun i hi hi' => ⟨(h5 i hi hi').1.more hs, (h5 i hi hi').2.more hs⟩⟩, fun z hz => h.en.st.xlt z hz.1⟩, h.en.eng, fun e => h.en.xe e.1, ⟨h.en.xm, hm.symm⟩, h.en.ma, h.en.mn, h.en.memo⟩, h.ax.more hs, h.le, h.ext, h.nbs, fun b hb => ⟨fun q => (h.sub b hb).1 q.1, fun q => ⟨(h.sub b hb).2 q, by omega⟩⟩⟩
end Go.Proofs.Qxb6500848aGreatDoor
