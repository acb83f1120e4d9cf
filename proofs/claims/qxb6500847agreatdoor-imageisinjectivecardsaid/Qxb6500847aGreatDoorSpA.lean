/-
  Arenas and models side by side in memory.
-/
import Derived.Test.Qxb6500847aGreatDoorOxPlay
import Derived.Test.Qxb6500847aGreatDoorMtS
import Derived.Test.Qxb6500847aGreatDoorOxLz
import Derived.Test.Qxb6500847aGreatDoorMdNw
import Derived.Test.Qxb6500847aGreatDoorOsNc
import Derived.Test.Qxb6500847aGreatDoorOxDf
namespace Go.Proofs.Qxb6500847aGreatDoor.Os
open Go.RowKit FloorA
set_option maxRecDepth 100000
/-- The parts' blocks: apart, from base on. -/
structure Sep (base : Nat) (D : Nat → Nat → Prop) (w : World) : Prop where
  lo : ∀ c b, D c b → base ≤ b ∧ b < w.heap.size
  di : ∀ c c' b, D c b → D c' b → c = c'
/-- Part c has got new blocks. -/
def grD (D : Nat → Nat → Prop) (c : Nat) (w w' : World) : Nat → Nat → Prop := fun x b => D x b ∨ (x = c ∧ w.heap.size ≤ b ∧ b < w'.heap.size)
section
variable {base : Nat} {D : Nat → Nat → Prop} {w w' : World} {c c' : Nat}
theorem Sep.grow (h : Sep base D w) (hs : w.heap.size ≤ w'.heap.size) (hb : base ≤ w.heap.size) (c : Nat) : Sep base (grD D c w w') w' := by
  refine ⟨fun x b hx => ?_, fun x y b hx hy => ?_⟩
  · rcases hx with hx | ⟨_, h1, h2⟩
    · have := h.lo x b hx
      omega
    · omega
  · rcases hx with hx | ⟨rfl, h1, h2⟩ <;> rcases hy with hy | ⟨rfl, h3, h4⟩
    · exact h.di x y b hx hy
    · have := (h.lo x b hx).2; omega
    · have := (h.lo y b hy).2; omega
    · rfl
theorem Sep.same (h : Sep base D w) (hs : w.heap.size ≤ w'.heap.size) : Sep base D w' := ⟨fun c b hb => by have := h.lo c b hb; omega, h.di⟩
end
/-- A sound state is observed as M. -/
def SdM (M : Nat → En) : Prop := ∃ s tl ws L n, Sd s tl ws L n ∧ ob s ws = M
/-- Part c: an arena, its variable in block P, observed as M. -/
def ArL (D : Nat → Nat → Prop) (c P : Nat) (M : Nat → En) (w : World) : Prop := ∃ A rb sb s tl ws L n, Hx P A rb sb s tl ws L n w ∧ ob s ws = M ∧ ∀ b, Tz A rb sb b ∨ b = P → D c b
/-- Part c: a model in block B. -/
def MoL (D : Nat → Nat → Prop) (c B : Nat) (M : Nat → En) (w : World) : Prop := ∃ wb, Md w B wb M ∧ ∀ b, Tm B wb M b → D c b
section
variable {base : Nat} {D D' : Nat → Nat → Prop} {w w' : World} {c c' P B : Nat} {M : Nat → En}
theorem ArL.sd (h : ArL D c P M w) : SdM M := by
  obtain ⟨A, rb, sb, s, tl, ws, L, n, hx, ho, _⟩ := h
  exact ⟨s, tl, ws, L, n, ⟨hx.iv, hx.ix, hx.wr⟩, ho⟩
theorem SdM.num (h : SdM M) : Mk M := by
  obtain ⟨s, tl, ws, L, n, hS, rfl⟩ := h
  exact hS.num
theorem ArL.below (h : ArL D c P M w) (k : Below w.heap.size w w') : ArL D c P M w' := by
  obtain ⟨A, rb, sb, s, tl, ws, L, n, hx, ho, hd⟩ := h
  exact ⟨A, rb, sb, s, tl, ws, L, n, hx.below k, ho, hd⟩
theorem MoL.below (h : MoL D c B M w) (k : Below w.heap.size w w') : MoL D c B M w' := by
  obtain ⟨wb, hm, hd⟩ := h
  exact ⟨wb, hm.below k, hd⟩
theorem ArL.mono (h : ArL D c P M w) (hD : ∀ b, D c b → D' c b) : ArL D' c P M w := by
  obtain ⟨A, rb, sb, s, tl, ws, L, n, hx, ho, hd⟩ := h
  exact ⟨A, rb, sb, s, tl, ws, L, n, hx, ho, fun b q => hD b (hd b q)⟩
theorem MoL.mono (h : MoL D c B M w) (hD : ∀ b, D c b → D' c b) : MoL D' c B M w := by
  obtain ⟨wb, hm, hd⟩ := h
  exact ⟨wb, hm, fun b q => hD b (hd b q)⟩
/-- Another part turns. -/
theorem ArL.keep (h : ArL D c P M w) (hS : Sep base D w) (h4 : 4 ≤ base) (hc : c' ≠ c) (e : Ext w.heap.size (D c') w w') : ArL D c P M w' := by
  obtain ⟨A, rb, sb, s, tl, ws, L, n, hx, ho, hd⟩ := h
  refine ⟨A, rb, sb, s, tl, ws, L, n, ⟨hx.toHs.ext e (fun b hb => ?_), hx.ix⟩, ho, hd⟩
  exact ⟨fun q => hc (hS.di _ _ b hb (hd b (Or.inl q))), by have := (hS.lo _ b hb).1; omega, fun q => hc (hS.di _ _ b hb (hd b (Or.inr q)))⟩
theorem MoL.keep (h : MoL D c B M w) (hS : Sep base D w) (hc : c' ≠ c) (e : Ext w.heap.size (D c') w w') : MoL D c B M w' := by
  obtain ⟨wb, hm, hd⟩ := h
  exact ⟨wb, hm.ext e (fun b hb q => hc (hS.di _ _ b q (hd b hb))), hd⟩
/-- A step on the arena. -/
def PlL (D : Nat → Nat → Prop) (c P : Nat) (X : Rs × (Nat → En)) (w : World) (e : Ending) (w' : World) : Prop :=
  ∃ refs vals, e = .returned (.agg #[.int .u8 X.1.code, refs, vals]) ∧ IsR (w.heap.size + 2) w' refs X.1.refs ∧ IsU (w.heap.size + 2) w' vals X.1.vals ∧ ArL (grD D c w w') c P X.2 w' ∧ Ext w.heap.size (D c) w w' ∧ (X.1.code ≠ 0 → Below w.heap.size w w')
theorem ArL.play (h : ArL D c P M w) (v : OpV) {C o : Nat} (hv : OpAt w C o v) : Calls Tryz.prog 17 #[.pointer (some ⟨P, 0, none⟩), .agg v.arr] w (PlL D c P (stepX M v) w) := by
  obtain ⟨A, rb, sb, s, tl, ws, L, n, hx, ho, hd⟩ := h
  subst ho
  refine (play_x hx v hv).mono ?_
  rintro e w' ⟨refs, vals, A', rb', sb', s', tl', ws', L', n', rfl, hR, hV, hx', hob, he, ha, hcd⟩
  refine ⟨refs, vals, rfl, hR, hV, ⟨A', rb', sb', s', tl', ws', L', n', hx', hob, fun b hb => ?_⟩, he.mono (Nat.le_refl _) (fun b _ hb => hd b hb), hcd⟩
  rcases ha with ⟨rfl, rfl, rfl⟩ | ⟨ha, _⟩
  · exact Or.inl (hd b hb)
  · rcases hb with hb | rfl
    · exact Or.inr ⟨rfl, ha b hb, hx'.ms.tzlt b hb⟩
    · exact Or.inl (hd _ (Or.inr rfl))
/-- A step of the model. -/
def StL (D : Nat → Nat → Prop) (c B : Nat) (X : Rs × (Nat → En)) (w : World) (e : Ending) (w' : World) : Prop :=
  ∃ refs vals, e = .returned (.agg #[.int .u8 X.1.code, refs, vals]) ∧ IsR w.heap.size w' refs X.1.refs ∧ IsU w.heap.size w' vals X.1.vals ∧ MoL (grD D c w w') c B X.2 w' ∧ Ext w.heap.size (D c) w w'
theorem MoL.step (h : MoL D c B M w) (hM : SdM M) (v : OpV) {C o : Nat} (hv : OpAt w C o v) : Calls Tryz.prog 19 #[.pointer (some ⟨B, 0, none⟩), .agg v.arr] w (StL D c B (stepX M v) w) := by
  obtain ⟨s, tl, ws, L, n, hS, rfl⟩ := hM
  obtain ⟨wb, hm, hd⟩ := h
  refine (step_m hm hS v hv).mono ?_
  rintro e w' ⟨refs, vals, wb', rfl, hR, hV, hm', he, ht⟩
  refine ⟨refs, vals, rfl, hR, hV, ⟨wb', hm', fun b hb => ?_⟩, he.mono (Nat.le_refl _) (fun b _ hb => hd b hb)⟩
  rcases ht b hb with q | q
  · exact Or.inl (hd b q)
  · exact Or.inr ⟨rfl, q, hm'.tlt hb⟩
end
/-- The empty state. -/
def M00 : Nat → En := fun i => if i < 320 then enF 1 else en0
end Go.Proofs.Qxb6500847aGreatDoor.Os
