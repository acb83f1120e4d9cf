/-
  Rows of words of the walk's own.
-/
import Derived.Test.Qxb6500848aGreatDoorReps
namespace Go.Proofs.Qxb6500848aGreatDoor
open Go.RowKit Pl
set_option maxRecDepth 100000

theorem seq_move {α : Type} {enc : α → Value} {X X' : Nat → Prop} {w w2 : World} {row : Option Nat} {v : Value} {l : List α} (h : Seq enc X w v l) (hg : w.grownBy w2 row) (hr : ∀ b, row = some b → X b) (hX : ∀ b, b < w.heap.size → X' b → X b) : Seq enc X' w2 v l := by
  obtain ⟨ad, cap, rfl, h1, h2, h3⟩ := h
  refine ⟨ad, cap, rfl, h1, h2, fun hl => ?_⟩
  obtain ⟨g, o, rfl, hx, hc⟩ := h3 hl
  have hlt : g < w.heap.size := cell_lt (hc 0 (List.length_pos_iff.2 hl))
  refine ⟨g, o, rfl, fun e => hx (hX g hlt e), fun j hj => ?_⟩
  have : w2.heap[g]? = w.heap[g]? := hg.block g hlt (fun e => hx (hr g e.symm))
  rw [World.cell?_of_block (w := w) (a := ⟨g, o + j, none⟩) this]
  exact hc j hj

/-- A word of the walk's own: its address is written out. -/
def WS (Y : Nat → Prop) (w : World) (u : Value) (L : Nat) : Prop := ∃ g o cap wd, u = .slice (some ⟨g, o, none⟩) wd.length cap ∧ wd.length ≤ L ∧ Ints Y w u wd
theorem WS.wrd {Y : Nat → Prop} {w : World} {u : Value} {L : Nat} (h : WS Y w u L) : Wrd Y w u L := by
  obtain ⟨g, o, cap, wd, rfl, h1, h2⟩ := h
  exact ⟨wd, h1, h2, by intro n c e; cases e⟩
theorem WS.move {Y Y' : Nat → Prop} {w w2 : World} {u : Value} {L : Nat} {row : Option Nat} (h : WS Y w u L) (hg : w.grownBy w2 row) (hr : ∀ b, row = some b → Y b) (hX : ∀ b, b < w.heap.size → Y' b → Y b) : WS Y' w2 u L := by
  obtain ⟨g, o, cap, wd, e, h1, h2⟩ := h
  exact ⟨g, o, cap, wd, e, h1, seq_move h2 hg hr hX⟩
theorem Wrd.move {Y Y' : Nat → Prop} {w w2 : World} {u : Value} {L : Nat} {row : Option Nat} (h : Wrd Y w u L) (hg : w.grownBy w2 row) (hr : ∀ b, row = some b → Y b) (hX : ∀ b, b < w.heap.size → Y' b → Y b) : Wrd Y' w2 u L := by
  obtain ⟨wd, h1, h2, h3⟩ := h
  exact ⟨wd, h1, seq_move h2 hg hr hX, h3⟩
theorem WS.below {Y : Nat → Prop} {w w2 : World} {u : Value} {L : Nat} (h : WS Y w u L) (k : Below w.heap.size w w2) : WS Y w2 u L := by
  obtain ⟨g, o, cap, wd, e, h1, h2⟩ := h
  exact ⟨g, o, cap, wd, e, h1, h2.below k (Nat.le_refl _)⟩
theorem Wrd.below {Y : Nat → Prop} {w w2 : World} {u : Value} {L : Nat} (h : Wrd Y w u L) (k : Below w.heap.size w w2) : Wrd Y w2 u L := by
  obtain ⟨wd, h1, h2, h3⟩ := h
  exact ⟨wd, h1, h2.below k (Nat.le_refl _), h3⟩
theorem WS.le {Y : Nat → Prop} {w : World} {u : Value} {L L' : Nat} (h : WS Y w u L) (hl : L ≤ L') : WS Y w u L' := by
  obtain ⟨g, o, cap, wd, e, h1, h2⟩ := h
  exact ⟨g, o, cap, wd, e, Nat.le_trans h1 hl, h2⟩
theorem Wrd.le {Y : Nat → Prop} {w : World} {u : Value} {L L' : Nat} (h : Wrd Y w u L) (hl : L ≤ L') : Wrd Y w u L' := by
  obtain ⟨wd, h1, h2, h3⟩ := h
  exact ⟨wd, Nat.le_trans h1 hl, h2, h3⟩

/-- Blocks to keep clear of. -/
def Av (X : Nat → Prop) (o1 o2 : Option Nat) (b : Nat) : Prop := X b ∨ o1 = some b ∨ o2 = some b

/-- Where probes stands: the words, the layer, the next layer. -/
structure PS (X : Nat → Prop) (w : World) (vW : Value) (uW : List Value) (vL : Value) (uL : List Value) (vN : Value) (uN : List Value) (k : Nat) (wr : World) : Prop where
  below : Below w.heap.size w wr
  rowW : wr.ownsRow w.heap.size 24 1 vW uW.length uW
  elW : ∀ u ∈ uW, Wrd (Av X vW.ownBlock vN.ownBlock) wr u 10
  rowN : wr.ownsRow w.heap.size 24 1 vN uN.length uN
  apart : ∀ g, vN.ownBlock = some g → vW.ownBlock ≠ some g
  elN : ∀ u ∈ uN, WS (Av X vW.ownBlock vN.ownBlock) wr u (k + 1)
  lay : Seq (fun u => u) (Av X vW.ownBlock vN.ownBlock) wr vL uL
  elL : ∀ u ∈ uL, WS (Av X vW.ownBlock vN.ownBlock) wr u k

theorem PS.below' {X : Nat → Prop} {w : World} {vW : Value} {uW : List Value} {vL : Value} {uL : List Value} {vN : Value} {uN : List Value} {k : Nat} {wr w1 : World} (h : PS X w vW uW vL uL vN uN k wr) (b : Below wr.heap.size wr w1) : PS X w vW uW vL uL vN uN k w1 :=
  ⟨h.below.trans (b.mono h.below.size), ownsRow_ext h.rowW (Ext.of_below b (fun _ => False)) (fun _ _ => id), fun u hu => (h.elW u hu).below b, ownsRow_ext h.rowN (Ext.of_below b (fun _ => False)) (fun _ _ => id), h.apart, fun u hu => (h.elN u hu).below b, h.lay.below b (Nat.le_refl _), fun u hu => (h.elL u hu).below b⟩

theorem own_grown {w w2 : World} {base : Nat} {t : TypeId} {v : Value} {xs : List Value} {row : Option Nat} (h : w.ownsRow base t 1 v xs.length xs) (hg : w.grownBy w2 row) (hr : ∀ g, v.ownBlock = some g → row ≠ some g) : w2.ownsRow base t 1 v xs.length xs :=
  ownsRow_ext h (Y := fun k => row = some k) ⟨hg.os, hg.tape, hg.output, hg.size, fun k hk hn => hg.block k hk (fun e => hn e.symm)⟩ (fun g hv => hr g hv)

/-- A word is appended to the next layer. -/
theorem PS.push {X : Nat → Prop} {w : World} {vW : Value} {uW : List Value} {vL : Value} {uL : List Value} {vN vN' : Value} {uN : List Value} {k : Nat} {wr w2 : World} {u : Value} (h : PS X w vW uW vL uL vN uN k wr) (hu : WS (Av X vW.ownBlock vN.ownBlock) wr u (k + 1))
    (hown : w2.ownsRow w.heap.size 24 1 vN' (uN.length + 1) (uN ++ [u])) (hg : wr.grownBy w2 vN.ownBlock) (ho : vN'.ownBlock = vN.ownBlock ∨ vN'.ownBlock = some wr.heap.size) : PS X w vW uW vL uL vN' (uN ++ [u]) k w2 := by
  have hr : ∀ b, vN.ownBlock = some b → Av X vW.ownBlock vN.ownBlock b := fun b e => Or.inr (Or.inr e)
  have hX : ∀ b, b < wr.heap.size → Av X vW.ownBlock vN'.ownBlock b → Av X vW.ownBlock vN.ownBlock b := fun b hb e => by
    rcases e with e | e | e
    · exact Or.inl e
    · exact Or.inr (Or.inl e)
    · rcases ho with e2 | e2
      · rw [e2] at e; exact Or.inr (Or.inr e)
      · rw [e2] at e; have := Option.some.inj e; omega
  refine ⟨h.below.grown hg h.below.size (fun q e => (ownsRow_block h.rowN e).1), own_grown h.rowW hg (fun g hv e => h.apart g e hv), fun q hq => (h.elW q hq).move hg hr hX, by simpa using hown, fun g hv => ?_, fun q hq => ?_, seq_move h.lay hg hr hX, fun q hq => (h.elL q hq).move hg hr hX⟩
  · rcases ho with e2 | e2
    · rw [e2] at hv; exact h.apart g hv
    · intro e
      rw [e2] at hv
      have := Option.some.inj hv
      have := (ownsRow_block h.rowW e).2
      omega
  · rcases List.mem_append.1 hq with hq | hq
    · exact (h.elN q hq).move hg hr hX
    · rw [List.mem_singleton.1 hq]; exact hu.move hg hr hX

/-- The next layer is appended to the words, and becomes the layer. -/
theorem PS.next {X : Nat → Prop} {w : World} {vW vW' : Value} {uW : List Value} {vL : Value} {uL : List Value} {vN : Value} {uN : List Value} {k : Nat} {wr w2 : World} (h : PS X w vW uW vL uL vN uN k wr) (hk : k + 1 ≤ 10)
    (hown : w2.ownsRow w.heap.size 24 1 vW' (uW.length + uN.length) (uW ++ uN)) (hg : wr.grownBy w2 vW.ownBlock) (ho : vW'.ownBlock = vW.ownBlock ∨ vW'.ownBlock = some wr.heap.size) (hX0 : ∀ z, X z → z < w.heap.size) : PS X w vW' (uW ++ uN) vN uN (.slice none 0 0) [] (k + 1) w2 := by
  have hr : ∀ b, vW.ownBlock = some b → Av X vW.ownBlock vN.ownBlock b := fun b e => Or.inr (Or.inl e)
  have hX : ∀ b, b < wr.heap.size → Av X vW'.ownBlock (Value.slice none 0 0).ownBlock b → Av X vW.ownBlock vN.ownBlock b := fun b hb e => by
    rcases e with e | e | e
    · exact Or.inl e
    · rcases ho with e2 | e2
      · rw [e2] at e; exact Or.inr (Or.inl e)
      · rw [e2] at e; have := Option.some.inj e; omega
    · cases e
  have hrowN : w2.ownsRow w.heap.size 24 1 vN uN.length uN := own_grown h.rowN hg (fun g hv e => h.apart g hv e)
  refine ⟨h.below.grown hg h.below.size (fun q e => (ownsRow_block h.rowW e).1), by simpa using hown, fun q hq => ?_, ⟨by simp, Or.inl ⟨rfl, rfl⟩⟩, fun g hv => (by cases hv), fun q hq => (by cases hq), ?_, fun q hq => (h.elN q hq).move hg hr hX⟩
  · rcases List.mem_append.1 hq with hq | hq
    · exact (h.elW q hq).move hg hr hX
    · exact ((h.elN q hq).move hg hr hX).wrd.le hk
  · obtain ⟨_, h2⟩ := hrowN
    rcases h2 with ⟨e, h0⟩ | ⟨g, cap, cur, e, hb, hh, r1, r2, r3, r4⟩
    · have : uN = [] := List.length_eq_zero_iff.1 h0
      subst this
      rw [e]
      exact Seq.nil _ _
    · refine ⟨_, cap, e, r1, r2, fun _ => ⟨g, 0, rfl, fun x => ?_, fun j hj => ?_⟩⟩
      · rcases x with x | x | x
        · have := hX0 g x; omega
        · rcases ho with e2 | e2
          · rw [e2] at x
            exact h.apart g (by rw [e]; rfl) x
          · rw [e2] at x
            have := Option.some.inj x
            have := (ownsRow_block h.rowN (g := g) (by rw [e]; rfl)).2
            omega
        · cases x
      · have e2 : (cur.toList.take (uN.length * 1))[j]? = uN[j]? := by rw [r4]
        rw [List.getElem?_take_of_lt (by omega)] at e2
        simp only [World.cell?, hh]
        simp [hj] at e2
        simpa using e2
end Go.Proofs.Qxb6500848aGreatDoor
