/-
  typedWords: words that are gathered, beside a row.
-/
import Derived.Test.Qxb6500847aGreatDoorOxRl
import Derived.Test.Qxb6500847aGreatDoorOxP
import Derived.Maps.AppendAt
namespace Go.Proofs.Qxb6500847aGreatDoor.Os
open Go.RowKit FloorA
set_option maxRecDepth 100000
/-- Words gathered in v, beside the row C in block R. -/
structure Tw (w W : World) (R : Nat) (C : List Value) (v : Value) (l : List Int) : Prop where
  own : W.ownsRow w.heap.size 34 1 v l.length (l.map (.int .u64))
  bel : Below w.heap.size w W
  row : W.rangeAt R 0 C
  ne : ∀ b, v.ownBlock = some b → b ≠ R
  rl : R < W.heap.size
section
variable {w W W2 W' : World} {R : Nat} {C : List Value} {v v' : Value} {l xs : List Int}
theorem Tw.app (h : Tw w W R C v l) (k : Below W.heap.size W W2) (ho : W'.ownsRow w.heap.size 34 1 v' (l.length + xs.length) (l.map (.int .u64) ++ xs.map (.int .u64))) (hg : W2.grownBy W' v.ownBlock) (hh : v'.ownBlock = v.ownBlock ∨ v'.ownBlock = some W2.heap.size) : Tw w W' R C v' (l ++ xs) := by
  have hR := h.rl
  have s1 := k.size
  have s2 := hg.size
  have s3 := h.bel.size
  have hblk : W'.heap[R]? = W.heap[R]? := (hg.block R (by omega) (fun e => h.ne R e.symm rfl)).trans (k.block R hR)
  refine ⟨by rw [List.length_append, List.map_append]; exact ho, (Below.thr h.bel k).trans ⟨hg.os, hg.tape, hg.output, hg.size, fun q hq => hg.block q (by omega) (fun e => by have := (owns_lt h.own q e.symm).1; omega)⟩, fun j u hu => (World.cell?_of_block (a := ⟨R, 0 + j, none⟩) hblk).trans (h.row j u hu), fun b hb => ?_, by omega⟩
  rcases hh with q | q
  · exact h.ne b (q ▸ hb)
  · rw [q] at hb
    have := Option.some.inj hb
    omega
theorem Tw.isu (h : Tw w W R C v l) : IsU w.heap.size W v l := by
  rcases h.own.2 with ⟨e, e2⟩ | ⟨g, c, cur, e1, e2, _⟩
  · exact ⟨none, 0, by rw [e, e2], fun q => by omega⟩
  · refine ⟨_, c, e1, fun _ => ⟨g, 0, rfl, e2, fun j u hu => ?_⟩⟩
    have := World.ownsRow.cells h.own (g := g) (by rw [e1]; rfl) j u hu
    have ead : (⟨g, 0, none⟩ : Addr).add j = ⟨g, 0 + j, none⟩ := by unfold Addr.add; by_cases e : j = 0 <;> simp [e]
    rwa [ead] at this
theorem Tw.form (h : Tw w W R C v l) : ∃ a c, v = .slice a l.length c := by
  rcases h.own.2 with ⟨e, e2⟩ | ⟨g, c, cur, e1, e2, _⟩
  · exact ⟨none, 0, by rw [e, e2]⟩
  · exact ⟨_, c, e1⟩
theorem Tw.new {g1 m : Nat} {l : List Int} (hb : Below w.heap.size w W) (hr : W.rangeAt R 0 C) (hl : R < W.heap.size) (hg : W.heap[g1]? = some (.cells (l.map (.int .u64)).toArray 34 (0, 0))) (hn : g1 ≠ R) (h1 : w.heap.size ≤ g1) (hm : m = l.length) (hm2 : m ≤ 1000) : Tw w W R C (.slice (some ⟨g1, 0, none⟩) m m) l := by
  subst hm
  refine ⟨⟨by simp, Or.inr ⟨g1, l.length, _, rfl, h1, hg, Nat.le_refl _, by unfold maxLen; omega, by simp, by rw [List.take_of_length_le (by simp)]⟩⟩, hb, hr, fun b hb => ?_, hl⟩
  obtain rfl : g1 = b := Option.some.inj hb
  exact hn
end
end Go.Proofs.Qxb6500847aGreatDoor.Os
