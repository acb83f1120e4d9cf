/-
  RetypeKeepsIntervalsDisjoint: an arena and a model side by side, and blocks that neither holds.
-/
import Derived.Test.Qxb6500847aGreatDoorSpA
import Derived.Test.Qxb6500847aGreatDoorDfG
import Derived.Test.Qxb6500847aGreatDoorRtE
namespace Go.Proofs.Qxb6500847aGreatDoor.Os
open Go.RowKit FloorA
set_option maxRecDepth 100000
/-- Blocks in Z are neither the arena's nor the model's. -/
structure R2 (w0 : World) (D : Nat → Nat → Prop) (Z : Nat → Prop) (P B : Nat) (M N : Nat → En) (w : World) : Prop where
  sep : Sep w0.heap.size D w
  ar : ArL D 0 P M w
  mo : MoL D 1 B N w
  bel : Below w0.heap.size w0 w
  sm : SdM N
  z : ∀ b, Z b → b < w.heap.size ∧ ∀ c, ¬ D c b
section
variable {w0 w w' : World} {D : Nat → Nat → Prop} {Z : Nat → Prop} {P B : Nat} {M N : Nat → En}
theorem R2.below (h : R2 w0 D Z P B M N w) (k : Below w.heap.size w w') : R2 w0 D (fun b => Z b ∨ (w.heap.size ≤ b ∧ b < w'.heap.size)) P B M N w' :=
  ⟨h.sep.same k.size, h.ar.below k, h.mo.below k, h.bel.trans (k.mono h.bel.size), h.sm, fun b hb => by
    rcases hb with hb | hb
    · obtain ⟨h1, h2⟩ := h.z b hb
      exact ⟨Nat.lt_of_lt_of_le h1 k.size, h2⟩
    · refine ⟨hb.2, fun c hc => ?_⟩
      have := (h.sep.lo c b hc).2
      omega⟩
theorem R2.weak {Z' : Nat → Prop} (h : R2 w0 D Z P B M N w) (hz : ∀ b, Z' b → Z b) : R2 w0 D Z' P B M N w := ⟨h.sep, h.ar, h.mo, h.bel, h.sm, fun b hb => h.z b (hz b hb)⟩
theorem R2.zkeep (h : R2 w0 D Z P B M N w) {c : Nat} (e : Ext w.heap.size (D c) w w') {b : Nat} (hb : Z b) : w'.heap[b]? = w.heap[b]? := e.block b (h.z b hb).1 ((h.z b hb).2 c)
theorem R2.zgrow (h : R2 w0 D Z P B M N w) (c : Nat) (hs : w.heap.size ≤ w'.heap.size) : ∀ b, Z b → b < w'.heap.size ∧ ∀ x, ¬ grD D c w w' x b := fun b hb => by
  obtain ⟨h1, h2⟩ := h.z b hb
  refine ⟨by omega, fun x hx => ?_⟩
  rcases hx with hx | ⟨_, hx, _⟩
  · exact h2 x hx
  · omega
theorem R2.play (h : R2 w0 D Z P B M N w) (v : OpV) {C o : Nat} (hv : OpAt w C o v) : Calls Tryz.prog 17 #[.pointer (some ⟨P, 0, none⟩), .agg v.arr] w fun e w' =>
    ∃ refs vals, e = .returned (.agg #[.int .u8 (stepX M v).1.code, refs, vals]) ∧ IsR (w.heap.size + 2) w' refs (stepX M v).1.refs ∧ IsU (w.heap.size + 2) w' vals (stepX M v).1.vals ∧ R2 w0 (grD D 0 w w') Z P B (stepX M v).2 N w' ∧ Ext w.heap.size (D 0) w w' := by
  refine (h.ar.play v hv).mono ?_
  rintro e w' ⟨refs, vals, rfl, hR, hV, ar', he, _⟩
  exact ⟨refs, vals, rfl, hR, hV, ⟨h.sep.grow he.size h.bel.size 0, ar', (h.mo.keep h.sep (by decide) he).mono (fun b q => Or.inl q), h.bel.trans (sep_bel h.sep he h.bel.size), h.sm, h.zgrow 0 he.size⟩, he⟩
theorem R2.step (h : R2 w0 D Z P B M N w) (h4 : 4 ≤ w0.heap.size) (v : OpV) {C o : Nat} (hv : OpAt w C o v) (hM : M = (stepX N v).2) : Calls Tryz.prog 19 #[.pointer (some ⟨B, 0, none⟩), .agg v.arr] w fun e w' =>
    ∃ refs vals, e = .returned (.agg #[.int .u8 (stepX N v).1.code, refs, vals]) ∧ IsR w.heap.size w' refs (stepX N v).1.refs ∧ IsU w.heap.size w' vals (stepX N v).1.vals ∧ R2 w0 (grD D 1 w w') Z P B M M w' ∧ Ext w.heap.size (D 1) w w' := by
  refine (h.mo.step h.sm v hv).mono ?_
  rintro e w' ⟨refs, vals, rfl, hR, hV, mo', he⟩
  rw [← hM] at mo'
  exact ⟨refs, vals, rfl, hR, hV, ⟨h.sep.grow he.size h.bel.size 1, (h.ar.keep h.sep h4 (by decide) he).mono (fun b q => Or.inl q), mo', h.bel.trans (sep_bel h.sep he h.bel.size), h.ar.sd, h.zgrow 1 he.size⟩, he⟩
end
end Go.Proofs.Qxb6500847aGreatDoor.Os
