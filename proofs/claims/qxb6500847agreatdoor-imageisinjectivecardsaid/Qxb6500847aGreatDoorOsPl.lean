/-
  play: what a step does; how its walks end.
-/
import Derived.Test.Qxb6500847aGreatDoorOsZb
import Derived.Test.Qxb6500847aGreatDoorOsRe
import Derived.Test.Qxb6500847aGreatDoorOsRc
import Derived.Test.Qxb6500847aGreatDoorOsDa
namespace Go.Proofs.Qxb6500847aGreatDoor.Os
open Go.RowKit FloorA
set_option maxRecDepth 100000
section
variable {A : Nat} {rb sb : Nat → Nat} {s : Av} {tl : Nat → List Int} {ws : Nat → Nat → Nat → Int} {w : World} {L : Nat → List Nat} {n : Nat}
/-- The globals that a step reads. -/
structure Gl (w : World) : Prop where
  gd : Gd tabC w
  kd : Kd w
  ed : Ed w
  sz : 4 ≤ w.heap.size
theorem Gl.ext {w' : World} {T : Nat → Prop} (h : Gl w) (e : Ext w.heap.size T w w') (hT : ∀ b, T b → 4 ≤ b) : Gl w' := by
  have hs := h.sz
  have k : Below 4 w w' := e.below' hs (fun k hk ht => absurd (hT k ht) (by omega))
  exact ⟨h.gd.below k (by decide), h.kd.below k (by decide), h.ed.below k (by decide), Nat.le_trans hs e.size⟩
theorem Gl.below {w' : World} (h : Gl w) (k : Below w.heap.size w w') : Gl w' := h.ext (Ext.of_below k (fun _ => False)) (fun _ q => q.elim)
theorem Gl.gl (h : Gl w) : 3 < w.heap.size := Nat.lt_of_lt_of_le (by decide) h.sz
theorem Gl.kl (h : Gl w) : 1 < w.heap.size := Nat.lt_of_lt_of_le (by decide) h.sz
/-- The kinds of step that only ask. -/
def ro (k : Nat) : Prop := k = 2 ∨ k = 6 ∨ k = 7 ∨ k = 8 ∨ k = 9 ∨ k = 10 ∨ k = 11 ∨ k = 12 ∨ k = 14 ∨ k = 18 ∨ k = 19 ∨ k = 20
/-- The arena's variable lies in block P; the state. -/
structure Hs (P A : Nat) (rb sb : Nat → Nat) (s : Av) (tl : Nat → List Int) (ws : Nat → Nat → Nat → Int) (L : Nat → List Nat) (n : Nat) (w : World) : Prop where
  ms : Ms w A rb sb s tl ws
  iv : IV s tl L n
  wr : Wr ws
  gl : Gl w
  pc : w.cell? ⟨P, 0, none⟩ = some (.pointer (some ⟨A, 0, none⟩))
  pf : w.frozen? ⟨P, 0, none⟩ = false
  pz : ¬ Tz A rb sb P
  p7 : 4 ≤ P
  hz : ∀ b, Tz A rb sb b → 4 ≤ b
def IsSl (v : Value) : Prop := ∃ a n c, v = .slice a n c
/-- What play does. -/
def PyPost (P A : Nat) (rb sb : Nat → Nat) (s : Av) (ws : Nat → Nat → Nat → Int) (k : Nat) (Q : Int → Value → Av → World → Prop) (w : World) (e : Ending) (w' : World) : Prop :=
  ∃ code refs vals A' rb' sb' s' tl' ws' L' n', e = .returned (.agg #[.int .u8 code, refs, vals]) ∧ (IsSl refs ∧ IsSl vals) ∧ Hs P A' rb' sb' s' tl' ws' L' n' w' ∧ Ext w.heap.size (fun b => Tz A rb sb b ∨ b = P) w w' ∧ ((A' = A ∧ rb' = rb ∧ sb' = sb) ∨ ∀ b, Tz A' rb' sb' b → w.heap.size ≤ b) ∧ (code ≠ 0 ∨ ro k → imgB s' ws' = imgB s ws) ∧ Adv s s' ∧ (code ≠ 0 → Below w.heap.size w w') ∧ Q code refs s' w'
variable {P : Nat}
theorem Hs.plt (h : Hs P A rb sb s tl ws L n w) : P < w.heap.size := cell_lt h.pc
theorem Hs.below {w' : World} (h : Hs P A rb sb s tl ws L n w) (k : Below w.heap.size w w') : Hs P A rb sb s tl ws L n w' :=
  ⟨h.ms.below k, h.iv, h.wr, h.gl.below k, (k.cell (p := ⟨P, 0, none⟩) h.plt).trans h.pc, (frz_below k h.plt 0).trans h.pf, h.pz, h.p7, h.hz⟩
theorem Hs.ext {w' : World} {T : Nat → Prop} (h : Hs P A rb sb s tl ws L n w) (e : Ext w.heap.size T w w') (hT : ∀ b, T b → ¬ Tz A rb sb b ∧ 4 ≤ b ∧ b ≠ P) : Hs P A rb sb s tl ws L n w' :=
  ⟨h.ms.ext e (fun b hb ht => (hT b ht).1 hb), h.iv, h.wr, h.gl.ext e (fun b hb => (hT b hb).2.1), (e.cell (p := ⟨P, 0, none⟩) h.plt (fun q => (hT P q).2.2 rfl)).trans h.pc, (frz_ext' e h.plt (fun q => (hT P q).2.2 rfl)).trans h.pf, h.pz, h.p7, h.hz⟩
/-- A state that a mutator leaves. -/
theorem Hs.turn {w' : World} {s' : Av} {tl' : Nat → List Int} {ws' : Nat → Nat → Nat → Int} {L' : Nat → List Nat} {n' : Nat} (h : Hs P A rb sb s tl ws L n w) (hm : Ms w' A rb sb s' tl' ws') (hi : IV s' tl' L' n') (hw : Wr ws') (e : Ext w.heap.size (Tz A rb sb) w w') : Hs P A rb sb s' tl' ws' L' n' w' :=
  ⟨hm, hi, hw, h.gl.ext e h.hz, (e.cell (p := ⟨P, 0, none⟩) h.plt h.pz).trans h.pc, (frz_ext' e h.plt h.pz).trans h.pf, h.pz, h.p7, h.hz⟩
theorem Hs.nR (h : Hs P A rb sb s tl ws L n w) {b : Nat} (hb : w.heap.size ≤ b) : ¬ Tz A rb sb b ∧ 4 ≤ b ∧ b ≠ P := by
  have h1 := h.gl.sz
  have h2 := h.plt
  exact ⟨fun q => by have := h.ms.tzlt b q; omega, by omega, by omega⟩
/-- Nothing below has turned. -/
theorem pl_same {w' : World} {k : Nat} {Q : Int → Value → Av → World → Prop} (h : Hs P A rb sb s tl ws L n w) (b : Below w.heap.size w w') (code : Int) (refs vals : Value) (hQ : Q code refs s w') (hr : IsSl refs := by exact ⟨_, _, _, rfl⟩) (hv : IsSl vals := by exact ⟨_, _, _, rfl⟩) : PyPost P A rb sb s ws k Q w (.returned (.agg #[.int .u8 code, refs, vals])) w' :=
  ⟨code, refs, vals, A, rb, sb, s, tl, ws, L, n, rfl, ⟨hr, hv⟩, h.below b, Ext.of_below b _, Or.inl ⟨rfl, rfl, rfl⟩, fun _ => rfl, Adv.refl s, fun _ => b, hQ⟩
/-- The arena has turned: w0 before the mutator, w2 behind it, w3 behind answer; the result lies in block R. -/
theorem pl_suc {w0 w2 w3 : World} {k R : Nat} {Q : Int → Value → Av → World → Prop} {s' : Av} {tl' : Nat → List Int} {ws' : Nat → Nat → Nat → Int} {L' : Nat → List Nat} {n' : Nat} (h : Hs P A rb sb s tl ws L n w) (b0 : Below w.heap.size w w0) (hm : Ms w2 A rb sb s' tl' ws') (hi : IV s' tl' L' n') (hw : Wr ws') (e : Ext w0.heap.size (Tz A rb sb) w0 w2) (ha : Adv s s')
    (b3 : Below w2.heap.size w2 w3) (hR : w.heap.size ≤ R) (x y z : Value) (hk : ¬ ro k) (refs vals : Value)
    (hQ : Q 0 refs s' (((w3.setCell ⟨R, 0, none⟩ x).setCell ⟨R, 1, none⟩ y).setCell ⟨R, 2, none⟩ z)) (hr : IsSl refs := by exact ⟨_, _, _, rfl⟩) (hv : IsSl vals := by exact ⟨_, _, _, rfl⟩) :
    PyPost P A rb sb s ws k Q w (.returned (.agg #[.int .u8 0, refs, vals])) (((w3.setCell ⟨R, 0, none⟩ x).setCell ⟨R, 1, none⟩ y).setCell ⟨R, 2, none⟩ z) := by
  have h0 := h.below b0
  have h2 := h0.turn hm hi hw e
  have h3 := h2.below b3
  have e3 : Ext w3.heap.size (fun b => b = R) w3 (((w3.setCell ⟨R, 0, none⟩ x).setCell ⟨R, 1, none⟩ y).setCell ⟨R, 2, none⟩ z) :=
    (((Ext.refl w3.heap.size (fun b => b = R) w3).setCell (p := ⟨R, 0, none⟩) (Or.inr rfl) _).setCell (p := ⟨R, 1, none⟩) (Or.inr rfl) _).setCell (p := ⟨R, 2, none⟩) (Or.inr rfl) _
  refine ⟨0, refs, vals, A, rb, sb, s', tl', ws', L', n', rfl, ⟨hr, hv⟩, h3.ext e3 (fun b hb => by subst hb; exact h.nR hR), ?_, Or.inl ⟨rfl, rfl, rfl⟩, fun q => ?_, ha, fun q => absurd rfl q, hQ⟩
  · have s1 : w.heap.size ≤ w0.heap.size := b0.size
    have s2 : w0.heap.size ≤ w2.heap.size := e.size
    have f1 : Ext w.heap.size (fun b => Tz A rb sb b ∨ b = P) w w0 := Ext.of_below b0 _
    have f2 := f1.trans e s1 (fun _ _ q => Or.inl q)
    have f3 := f2.andThen b3 (Nat.le_trans s1 s2)
    exact ((f3.setCell (p := ⟨R, 0, none⟩) (Or.inl hR) _).setCell (p := ⟨R, 1, none⟩) (Or.inl hR) _).setCell (p := ⟨R, 2, none⟩) (Or.inl hR) _
  · rcases q with q | q
    · exact absurd rfl q
    · exact absurd q hk
/-- The kinds of step that refuse a reference to nothing live. -/
def stK (k : Nat) : Prop := k = 1 ∨ k = 2 ∨ k = 3 ∨ k = 4 ∨ k = 6 ∨ k = 7 ∨ k = 8 ∨ k = 12 ∨ k = 13 ∨ k = 14 ∨ k = 15 ∨ k = 16 ∨ k = 17 ∨ k = 19 ∨ k = 20
/-- What a step's answer tells of references. -/
structure QQ (k i : Nat) (g : Int) (s : Av) (B0 : Nat) (code : Int) (refs : Value) (s' : Av) (w' : World) : Prop where
  st : stK k → ¬ Live s i g → code = stale i g
  nw : k = 0 ∨ k = 1 → code = 0 → ∃ R rl, refs = .slice (some ⟨R, 0, none⟩) rl.length rl.length ∧ B0 ≤ R ∧ w'.rangeAt R 0 (refL rl) ∧ rl.length ≤ 32 ∧ (∀ r ∈ rl, (s.hd r.1).typ = 0 ∧ (s.hd r.1).gen = r.2 ∧ Live s' r.1 r.2) ∧ (rl.map Prod.fst).Nodup
  fr : k = 3 → code = 0 → ¬ Live s' i g
theorem QQ.err {k i B0 : Nat} {g code : Int} {refs : Value} {w' : World} (hc : code ≠ 0) (hst : stK k → ¬ Live s i g → code = stale i g) : QQ k i g s B0 code refs s w' := ⟨hst, fun _ q => absurd q hc, fun _ q => absurd q hc⟩
theorem QQ.ask {k i B0 : Nat} {g code : Int} {refs : Value} {w' : World} {s' : Av} (h0 : ¬ (k = 0 ∨ k = 1 ∨ k = 3)) (hst : stK k → Live s i g) : QQ k i g s B0 code refs s' w' := ⟨fun q hn => absurd (hst q) hn, fun q => absurd (by omega) h0, fun q => absurd (by omega) h0⟩
/-- answer's two answers, with lists built ahead. -/
theorem answer_err_at {w1 W1 : World} {v : Value} {code : Int} {a1 a2 : Option Addr} {n1 c1 n2 c2 : Nat} (hg : Gl w1) (hv : IsErr w1 v code) (hb : Below w1.heap.size w1 W1) :
    Calls Tryz.prog 50 #[v, .slice a1 n1 c1, .slice a2 n2 c2] W1 (fun e w2 => e = .returned (.agg #[.int .u8 code, .slice none 0 0, .slice none 0 0]) ∧ Below w1.heap.size w1 w2) :=
  (answer_err v code a1 a2 n1 c1 n2 c2 W1 (hg.below hb).ed (hv.below hb)).mono (fun _ _ h => ⟨h.1, Below.thr hb h.2⟩)
theorem answer_ok_at {w1 W1 : World} {a1 a2 : Option Addr} {n1 c1 n2 c2 : Nat} (hb : Below w1.heap.size w1 W1) :
    Calls Tryz.prog 50 #[.nilIface, .slice a1 n1 c1, .slice a2 n2 c2] W1 (fun e w2 => ∃ d1 m1 k1 d2 m2 k2, e = .returned (.agg #[.int .u8 0, .slice d1 m1 k1, .slice d2 m2 k2]) ∧ Value.slice d1 m1 k1 = .slice a1 n1 c1 ∧ Below w1.heap.size w1 w2 ∧ Below W1.heap.size W1 w2) :=
  (answer_ok a1 a2 n1 c1 n2 c2 W1).mono (fun _ _ h => ⟨a1, n1, c1, a2, n2, c2, h.1, rfl, Below.thr hb h.2, h.2⟩)
/-- A step's cells. -/
def opA (k i g j gg t bt ct fd a b : Nat) (wv : Value) : Array Value := #[.int .u8 (k : Int), .int .u16 (i : Int), .int .u32 (g : Int), .int .u16 (j : Int), .int .u32 (gg : Int), .int .u8 (t : Int), .int .u8 (bt : Int), .int .u16 (ct : Int), .int .u16 (fd : Int), .int .u64 (a : Int), .int .u64 (b : Int), wv]
/-- The box of the step and the result's. -/
def plW (k i g j gg t bt ct fd a b : Nat) (wv : Value) (w : World) : World := (w.alloc (.cells (opA k i g j gg t bt ct fd a b wv) 37)).alloc (.cells #[.int .u8 0, .slice none 0 0, .slice none 0 0] 57)
variable (k i g j gg t bt ct fd a b : Nat) (wv : Value)
theorem plW_below (w : World) : Below w.heap.size w (plW k i g j gg t bt ct fd a b wv w) := two_below (w := w) _ _
theorem plW_op (w : World) : (plW k i g j gg t bt ct fd a b wv w).heap[w.heap.size]? = some (.cells (opA k i g j gg t bt ct fd a b wv) 37 (0, 0)) := (heap_alloc_old _ _ (by simp)).trans (heap_new _ _)
theorem plW_rs (w : World) : (plW k i g j gg t bt ct fd a b wv w).heap[w.heap.size + 1]? = some (.cells #[.int .u8 0, .slice none 0 0, .slice none 0 0] 57 (0, 0)) := new_at _ _ (Deep.nblk_alloc _ _)
theorem load_refs {b o : Nat} {x y : Value} (h0 : w.cell? ⟨b, o, none⟩ = some x) (h1 : w.cell? ⟨b, o + 1, none⟩ = some y) : (Instr.loadAt 32 (.pointer (some ⟨b, o, none⟩))).run Tryz.prog w = .ok (.agg #[x, y]) w :=
  run_loadAt_mid w b o 32 [x, y] _ (fun j v hj => by
    match j, hj with
    | 0, hj => simp only [List.getElem?_cons_zero, Option.some.injEq] at hj; subst hj; exact h0
    | 1, hj => simp only [List.getElem?_cons_succ, List.getElem?_cons_zero, Option.some.injEq] at hj; subst hj; exact h1) Tryz.underlying32 rfl (by kernel_rfl)
end
end Go.Proofs.Qxb6500847aGreatDoor.Os
