/-
  What play does, exactly.
-/
import Derived.Test.Qxb6500847aGreatDoorOsPl
import Derived.Test.Qxb6500847aGreatDoorOxQa
import Derived.Test.Qxb6500847aGreatDoorOxT
namespace Go.Proofs.Qxb6500847aGreatDoor.Os
open Go.RowKit FloorA
set_option maxRecDepth 100000
section
variable {P A : Nat} {rb sb : Nat → Nat} {s : Av} {tl : Nat → List Int} {ws : Nat → Nat → Nat → Int} {w : World} {L : Nat → List Nat} {n : Nat}
structure Hx (P A : Nat) (rb sb : Nat → Nat) (s : Av) (tl : Nat → List Int) (ws : Nat → Nat → Nat → Int) (L : Nat → List Nat) (n : Nat) (w : World) : Prop extends Hs P A rb sb s tl ws L n w where
  ix : IX s tl L n
/-- What play does: X. -/
def PxPost (P A : Nat) (rb sb : Nat → Nat) (X : Rs × (Nat → En)) (w : World) (e : Ending) (w' : World) : Prop :=
  ∃ refs vals A' rb' sb' s' tl' ws' L' n', e = .returned (.agg #[.int .u8 X.1.code, refs, vals]) ∧ IsR (w.heap.size + 2) w' refs X.1.refs ∧ IsU (w.heap.size + 2) w' vals X.1.vals ∧ Hx P A' rb' sb' s' tl' ws' L' n' w' ∧ ob s' ws' = X.2 ∧ Ext w.heap.size (fun b => Tz A rb sb b ∨ b = P) w w' ∧ ((A' = A ∧ rb' = rb ∧ sb' = sb) ∨ ((∀ b, Tz A' rb' sb' b → w.heap.size ≤ b) ∧ X.1.refs = [] ∧ X.1.vals = [])) ∧ (X.1.code ≠ 0 → Below w.heap.size w w')
theorem Hx.below {w' : World} (h : Hx P A rb sb s tl ws L n w) (k : Below w.heap.size w w') : Hx P A rb sb s tl ws L n w' := ⟨h.toHs.below k, h.ix⟩
/-- A list stays where it is while the result's cell is written. -/
theorem Sq.fin {B R m : Nat} {w1 w2 : World} {v : Value} {xs : List Value} (h : Sq B w1 v m xs) (hb : Below w1.heap.size w1 w2) (hR : R < B) (x y z : Value) : Sq B (((w2.setCell ⟨R, 0, none⟩ x).setCell ⟨R, 1, none⟩ y).setCell ⟨R, 2, none⟩ z) v m xs := by
  obtain ⟨ad, cap, e, f⟩ := h
  refine ⟨ad, cap, e, fun q => ?_⟩
  obtain ⟨b, o, e1, e2, e3⟩ := f q
  refine ⟨b, o, e1, e2, fun j v hj => ?_⟩
  have key := e3 j v hj
  have hne : b ≠ R := by omega
  rw [set_other (fun e => hne (congrArg Addr.block e).symm), set_other (fun e => hne (congrArg Addr.block e).symm), set_other (fun e => hne (congrArg Addr.block e).symm)]
  exact (hb.cell (p := ⟨b, o + j, none⟩) (cell_lt key)).trans key
/-- Nothing below has turned. -/
theorem px_same {w' : World} {X : Rs × (Nat → En)} (h : Hx P A rb sb s tl ws L n w) (b : Below w.heap.size w w') (hX : X.2 = ob s ws) {refs vals : Value} (hr : IsR (w.heap.size + 2) w' refs X.1.refs) (hv : IsU (w.heap.size + 2) w' vals X.1.vals) : PxPost P A rb sb X w (.returned (.agg #[.int .u8 X.1.code, refs, vals])) w' :=
  ⟨refs, vals, A, rb, sb, s, tl, ws, L, n, rfl, hr, hv, h.below b, hX.symm, Ext.of_below b _, Or.inl ⟨rfl, rfl, rfl⟩, fun _ => b⟩
theorem px_err {w' : World} {X : Rs × (Nat → En)} {c : Int} (h : Hx P A rb sb s tl ws L n w) (b : Below w.heap.size w w') (hX : X = (bad c, ob s ws)) : PxPost P A rb sb X w (.returned (.agg #[.int .u8 c, .slice none 0 0, .slice none 0 0])) w' := by
  subst hX
  exact px_same (X := (bad c, ob s ws)) h b rfl (IsR.nil _ _) (IsU.nil _ _)
/-- The arena has turned: w0 before the mutator, w2 behind it, w3 behind answer; the result lies in block R. -/
theorem px_suc {w0 w2 w3 : World} {R : Nat} {X : Rs × (Nat → En)} (h : Hx P A rb sb s tl ws L n w) (b0 : Below w.heap.size w w0) (hS : SuX A rb sb X.2 w0 w2) (b3 : Below w2.heap.size w2 w3) (hR : w.heap.size ≤ R) (x y z : Value) (hc : X.1.code = 0) {refs vals : Value}
    (hr : IsR (w.heap.size + 2) (((w3.setCell ⟨R, 0, none⟩ x).setCell ⟨R, 1, none⟩ y).setCell ⟨R, 2, none⟩ z) refs X.1.refs) (hv : IsU (w.heap.size + 2) (((w3.setCell ⟨R, 0, none⟩ x).setCell ⟨R, 1, none⟩ y).setCell ⟨R, 2, none⟩ z) vals X.1.vals) :
    PxPost P A rb sb X w (.returned (.agg #[.int .u8 0, refs, vals])) (((w3.setCell ⟨R, 0, none⟩ x).setCell ⟨R, 1, none⟩ y).setCell ⟨R, 2, none⟩ z) := by
  obtain ⟨s', tl', ws', L', n', hm, e, hi, hx, hw, hM⟩ := hS
  have h0 := h.toHs.below b0
  have h2 := h0.turn hm hi hw e
  have h3 := h2.below b3
  have e3 : Ext w3.heap.size (fun b => b = R) w3 (((w3.setCell ⟨R, 0, none⟩ x).setCell ⟨R, 1, none⟩ y).setCell ⟨R, 2, none⟩ z) :=
    (((Ext.refl w3.heap.size (fun b => b = R) w3).setCell (p := ⟨R, 0, none⟩) (Or.inr rfl) _).setCell (p := ⟨R, 1, none⟩) (Or.inr rfl) _).setCell (p := ⟨R, 2, none⟩) (Or.inr rfl) _
  refine ⟨refs, vals, A, rb, sb, s', tl', ws', L', n', by rw [hc], hr, hv, ⟨h3.ext e3 (fun b hb => by subst hb; exact h.toHs.nR hR), hx⟩, hM, ?_, Or.inl ⟨rfl, rfl, rfl⟩, fun q => absurd hc q⟩
  have s1 : w.heap.size ≤ w0.heap.size := b0.size
  have s2 : w0.heap.size ≤ w2.heap.size := e.size
  have f1 : Ext w.heap.size (fun b => Tz A rb sb b ∨ b = P) w w0 := Ext.of_below b0 _
  have f2 := f1.trans e s1 (fun _ _ q => Or.inl q)
  have f3 := f2.andThen b3 (Nat.le_trans s1 s2)
  exact ((f3.setCell (p := ⟨R, 0, none⟩) (Or.inl hR) _).setCell (p := ⟨R, 1, none⟩) (Or.inl hR) _).setCell (p := ⟨R, 2, none⟩) (Or.inl hR) _
/-- answer, with lists built ahead. -/
theorem answer_ok_x {w1 W1 : World} {a1 a2 : Option Addr} {n1 c1 n2 c2 : Nat} (hb : Below w1.heap.size w1 W1) :
    Calls Tryz.prog 50 #[.nilIface, .slice a1 n1 c1, .slice a2 n2 c2] W1 (fun e w2 => ∃ d1 m1 k1 d2 m2 k2, e = .returned (.agg #[.int .u8 0, .slice d1 m1 k1, .slice d2 m2 k2]) ∧ Below w1.heap.size w1 w2 ∧ (∀ B l, IsR B W1 (.slice a1 n1 c1) l → ∀ R x y z, R < B → IsR B (((w2.setCell ⟨R, 0, none⟩ x).setCell ⟨R, 1, none⟩ y).setCell ⟨R, 2, none⟩ z) (.slice d1 m1 k1) l) ∧ (∀ B l, IsU B W1 (.slice a2 n2 c2) l → ∀ R x y z, R < B → IsU B (((w2.setCell ⟨R, 0, none⟩ x).setCell ⟨R, 1, none⟩ y).setCell ⟨R, 2, none⟩ z) (.slice d2 m2 k2) l)) :=
  (answer_ok a1 a2 n1 c1 n2 c2 W1).mono (fun _ _ h => ⟨a1, n1, c1, a2, n2, c2, h.1, Below.thr hb h.2, fun _ _ k _ x y z hR => Sq.fin k h.2 hR x y z, fun _ _ k _ x y z hR => Sq.fin k h.2 hR x y z⟩)
/-- One new reference, new words. -/
theorem isR_new {B b c T n : Nat} {g : Int} {w : World} (h : w.heap[b]? = some (.cells #[.int .u16 (c : Int), .int .u32 g] T (0, 0))) (hB : B ≤ b) : IsR B w (.slice (some ⟨b, 0, none⟩) 1 n) [(c, g)] := ⟨_, n, rfl, fun _ => ⟨b, 0, rfl, hB, fun j v hj => by
  obtain ⟨h0, h1⟩ := ref_agg h
  match j, hj with
  | 0, hj => simp only [refL, List.flatMap_cons, List.flatMap_nil, List.append_nil, List.getElem?_cons_zero, Option.some.injEq] at hj; subst hj; exact h0
  | 1, hj => simp only [refL, List.flatMap_cons, List.flatMap_nil, List.append_nil, List.getElem?_cons_succ, List.getElem?_cons_zero, Option.some.injEq] at hj; subst hj; exact h1⟩⟩
theorem isU_new {B b T n : Nat} {l : List Int} {w : World} (h : w.heap[b]? = some (.cells (l.map (.int .u64)).toArray T (0, 0))) (hB : B ≤ b) : IsU B w (.slice (some ⟨b, 0, none⟩) l.length n) l := ⟨_, n, rfl, fun _ => ⟨b, 0, rfl, hB, fun j v hj => by
  rw [Nat.zero_add, box_cell h j, List.getElem?_toArray]
  exact hj⟩⟩
theorem isU_arr {B b T m n : Nat} {arr : Array Value} {l : List Int} {w : World} (h : w.heap[b]? = some (.cells arr T (0, 0))) (ha : arr = (l.map (.int .u64)).toArray) (hm : m = l.length) (hB : B ≤ b) : IsU B w (.slice (some ⟨b, 0, none⟩) m n) l := by
  subst ha hm
  exact isU_new h hB
theorem MrPost.su {X : Int × (Nat → En)} {w' : World} (hI : IV s tl L n) (hX : IX s tl L n) {ws' : Nat → Nat → Nat → Int} (hm : Ms w' A rb sb s tl ws') (e : Ext w.heap.size (Tz A rb sb) w w') (hw : Wr ws') (ho : ob s ws' = X.2) : SuX A rb sb X.2 w w' := ⟨s, tl, ws', L, n, hm, e, hI, hX, hw, ho⟩
end
end Go.Proofs.Qxb6500847aGreatDoor.Os
