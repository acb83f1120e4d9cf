/-
  The model's answers.
-/
import Derived.Test.Qxb6500848aGreatDoorMaB
import Derived.Test.Qxb6500848aGreatDoorPlW
import Derived.Test.Qxb6500848aGreatDoorReps
import Derived.Test.Qxb6500848aGreatDoorEdgeW
import Derived.Test.Qxb6500848aGreatDoorMtA
namespace Go.Proofs.Qxb6500848aGreatDoor
open Go.RowKit Pl Go.Maps
set_option maxRecDepth 100000

def refV : Value := .agg #[.bool false, .bool true, .bool false, .bool false, .int .i64 0]
def zeroV : Value := .agg #[.bool false, .bool false, .bool false, .bool false, .int .i64 0]
def numV (n : Int) : Value := .agg #[.bool false, .bool false, .bool false, .bool true, .int .i64 n]
def InL (B : List Nd) (x : Int) (u : Word) : Prop := Alph u ∧ lang B x u
def Ans (q : Prop) (v : Value) : Prop := ∃ b : Bool, (b = true ↔ q) ∧ v = numV (if b then 1 else 0)
/-- What a question shows: of the language alone. -/
def AskV (k ob : Int) (B : List Nd) (x : Int) (u p : Word) (v : Value) : Prop :=
  if k = 15 then Ans (InL B x (u ++ p)) v
  else if k = 16 then ∃ P, IsCut tabC B x P ∧ Ans (InL B x (minF tabC (P.getD (ob % (P.length : Int)).toNat []) :: p)) v
  else if k = 17 then (PlainR B x ∧ Ans (InL B x (u ++ p)) v) ∨ (¬ PlainR B x ∧ v = refV)
  else if k = 18 then Ans (InL B x u) v
  else if k = 19 then (PlainR B x ∧ Ans (InL B x u) v) ∨ (¬ PlainR B x ∧ v = refV)
  else if k = 20 then ∃ P, IsCut tabC B x P ∧ v = numV (P.length : Int)
  else v = zeroV
theorem ans_eq {q r : Prop} {v v' : Value} (h : Ans q v) (k : Ans r v') (e : q ↔ r) : v = v' := by
  obtain ⟨b, h1, rfl⟩ := h
  obtain ⟨b', k1, rfl⟩ := k
  have : b = b' := by
    cases b <;> cases b'
    · rfl
    · exact absurd (h1.2 (e.2 (k1.1 rfl))) (by simp)
    · exact absurd (k1.2 (e.1 (h1.1 rfl))) (by simp)
    · rfl
  rw [this]
/-- Alike regexes give alike answers. -/
theorem ask_same {k ob : Int} {A B : List Nd} (hA : Wf A) (hB : Wf B) {x y : Int} (s : Sim A B x y) {u p : Word} {v v' : Value} (h : AskV k ob A x u p v) (g : AskV k ob B y u p v') : v = v' := by
  have hl : ∀ u, InL A x u ↔ InL B y u := fun u => by unfold InL; rw [s.lang hA hB]
  unfold AskV at h g
  split at h
  · rename_i e; rw [if_pos e] at g; exact ans_eq h g (hl _)
  · rename_i n15; rw [if_neg n15] at g
    split at h
    · rename_i e; rw [if_pos e] at g
      obtain ⟨P, h1, h2⟩ := h
      obtain ⟨Q, g1, g2⟩ := g
      obtain rfl := (s.cut h1).uniq g1
      exact ans_eq h2 g2 (hl _)
    · rename_i n16; rw [if_neg n16] at g
      split at h
      · rename_i e; rw [if_pos e] at g
        rcases h with ⟨h1, h2⟩ | ⟨h1, h2⟩ <;> rcases g with ⟨g1, g2⟩ | ⟨g1, g2⟩
        · exact ans_eq h2 g2 (hl _)
        · exact absurd (s.plain.2 h1) g1
        · exact absurd (s.plain.1 g1) h1
        · rw [h2, g2]
      · rename_i n17; rw [if_neg n17] at g
        split at h
        · rename_i e; rw [if_pos e] at g; exact ans_eq h g (hl _)
        · rename_i n18; rw [if_neg n18] at g
          split at h
          · rename_i e; rw [if_pos e] at g
            rcases h with ⟨h1, h2⟩ | ⟨h1, h2⟩ <;> rcases g with ⟨g1, g2⟩ | ⟨g1, g2⟩
            · exact ans_eq h2 g2 (hl _)
            · exact absurd (s.plain.2 h1) g1
            · exact absurd (s.plain.1 g1) h1
            · rw [h2, g2]
          · rename_i n19; rw [if_neg n19] at g
            split at h
            · rename_i e; rw [if_pos e] at g
              obtain ⟨P, h1, h2⟩ := h
              obtain ⟨Q, g1, g2⟩ := g
              obtain rfl := (s.cut h1).uniq g1
              rw [h2, g2]
            · rename_i n20; rw [if_neg n20] at g
              rw [h, g]
def Mask (k ob : Int) (B : List Nd) (regs : List Int) (x : Int) (u p : Word) (B' : List Nd) (regs' : List Int) (v : Value) : Prop := B' = B ∧ regs' = regs ∧ AskV k ob B x u p v
theorem ask15 {ob : Int} {B : List Nd} {x : Int} {u p : Word} {v : Value} (h : Ans (InL B x (u ++ p)) v) : AskV 15 ob B x u p v := by unfold AskV; rw [if_pos rfl]; exact h
theorem ask16 {ob : Int} {B : List Nd} {x : Int} {u p : Word} {v : Value} (h : ∃ P, IsCut tabC B x P ∧ Ans (InL B x (minF tabC (P.getD (ob % (P.length : Int)).toNat []) :: p)) v) : AskV 16 ob B x u p v := by unfold AskV; rw [if_neg (by decide), if_pos rfl]; exact h
theorem ask17 {ob : Int} {B : List Nd} {x : Int} {u p : Word} {v : Value} (h : (PlainR B x ∧ Ans (InL B x (u ++ p)) v) ∨ (¬ PlainR B x ∧ v = refV)) : AskV 17 ob B x u p v := by unfold AskV; rw [if_neg (by decide), if_neg (by decide), if_pos rfl]; exact h
theorem ask18 {ob : Int} {B : List Nd} {x : Int} {u p : Word} {v : Value} (h : Ans (InL B x u) v) : AskV 18 ob B x u p v := by unfold AskV; rw [if_neg (by decide), if_neg (by decide), if_neg (by decide), if_pos rfl]; exact h
theorem ask19 {ob : Int} {B : List Nd} {x : Int} {u p : Word} {v : Value} (h : (PlainR B x ∧ Ans (InL B x u) v) ∨ (¬ PlainR B x ∧ v = refV)) : AskV 19 ob B x u p v := by unfold AskV; rw [if_neg (by decide), if_neg (by decide), if_neg (by decide), if_neg (by decide), if_pos rfl]; exact h
theorem ask20 {ob : Int} {B : List Nd} {x : Int} {u p : Word} {v : Value} (h : ∃ P, IsCut tabC B x P ∧ v = numV (P.length : Int)) : AskV 20 ob B x u p v := by unfold AskV; rw [if_neg (by decide), if_neg (by decide), if_neg (by decide), if_neg (by decide), if_neg (by decide), if_pos rfl]; exact h
theorem askU {k ob : Int} {B : List Nd} {x : Int} {u p : Word} (h : k < 15 ∨ 20 < k) : AskV k ob B x u p zeroV := by unfold AskV; rw [if_neg (by omega), if_neg (by omega), if_neg (by omega), if_neg (by omega), if_neg (by omega), if_neg (by omega)]
theorem cut_some {A : List Nd} {r : Int} {P : List (List Nat)} (h : IsCut tabC A r P) : P ≠ [] := by
  obtain ⟨F, _, _, hC⟩ := h
  obtain ⟨p, hp, _⟩ := hC.mt.cover 0 (by omega) (by omega)
  intro e
  rw [e] at hp
  cases hp
/-- The Lang while its prefix grows. -/
structure LgS (w4 : World) (x : Int) (u : Word) (i : Nat) (wr : World) (pa : Option Addr) (n cap : Nat) : Prop where
  below : Below w4.heap.size w4 wr
  blk : wr.heap[w4.heap.size]? = some (.cells #[.int .i64 x, .slice pa n cap] 150 (0, 0))
  word : Ints (fun b => b ≤ w4.heap.size) wr (.slice pa n cap) (u.take i)
  nz : Nz (.slice pa n cap)
theorem LgS.start (w4 : World) (x : Int) (u : Word) : LgS w4 x u 0 (w4.alloc (.cells #[.int .i64 x, .slice none 0 0] 150)) none 0 0 :=
  ⟨alloc_below _, heap_new _ _, Seq.nil _ _, fun _ _ e => by cases e; exact ⟨rfl, rfl⟩⟩
theorem LgS.step {w4 : World} {x : Int} {u : Word} {i : Nat} {wr w5 W : World} {pa : Option Addr} {n cap : Nat} (h : LgS w4 x u i wr pa n cap) (hW : Below wr.heap.size wr W) {c : Int} (hi : i < u.length) (hc : u[i] = c) {ad : Option Addr} {n' cap' : Nat} (hI : Ints (fun b => b < W.heap.size) w5 (.slice ad n' cap') (u.take i ++ [c])) (hN : Nz (.slice ad n' cap')) (hB : Below W.heap.size W w5) :
    LgS w4 x u (i + 1) ((w5.setCell ⟨w4.heap.size, 0, none⟩ (.int .i64 x)).setCell ⟨w4.heap.size, 1, none⟩ (.slice ad n' cap')) ad n' cap' := by
  have l0 := heap_lt h.blk
  have s0 := hW.size
  have s1 := hB.size
  have hbk := (hB.block w4.heap.size (by omega)).trans ((hW.block w4.heap.size (by omega)).trans h.blk)
  refine ⟨((h.below.trans (hW.mono h.below.size)).trans (hB.mono (by omega))).trans (two_below (Nat.le_refl _) _ _), two_heap hbk _ _, ?_, hN⟩
  rw [List.take_succ_eq_append_getElem hi, hc]
  obtain ⟨a, c', e, l1, l2, l3⟩ := hI
  refine ⟨a, c', e, l1, l2, fun hl => ?_⟩
  obtain ⟨g, o, rfl, hx, hcell⟩ := l3 hl
  have hx' : W.heap.size ≤ g := Nat.not_lt.1 hx
  refine ⟨g, o, rfl, fun q => by omega, fun j hj => ?_⟩
  have : w4.heap.size ≠ g := by omega
  rw [← hcell j hj]
  simp [World.cell?, World.setCell, Array.getElem?_modify, this]
end Go.Proofs.Qxb6500848aGreatDoor
