/-
  What the walk of 'table' keeps in memory.
-/
import Derived.Test.Qxb6500848aGreatDoorWalkE
import Derived.Test.Qxb6500848aGreatDoorMap
import Derived.Maps.AppendAt
import Derived.OwnWalk
namespace Go.Proofs.Qxb6500848aGreatDoor
open Go.RowKit Pl Go.Maps

/-- Table b of n + 2 blocks lies outside X. -/
def Off (X : Nat → Prop) (b n : Nat) : Prop := ∀ z, X z → ¬ (b ≤ z ∧ z ≤ b + 1 + n)

/-- The arena, the word and the map of tables made. -/
structure TSt (X : Nat → Prop) (A : List Nd) (wd : Word) (wv : Value) (ab nb db : Nat) (lim : Int) (w : World) : Prop where
  ar : Ar X w ab nb lim A
  word : Ints X w wv wd
  xd : X db
  da : db ≠ ab
  dn : db ≠ nb
  xlt : ∀ z, X z → z < w.heap.size
  done : ∃ get ks, Mp 28 w db get ks ∧ ∀ k ∈ ks, ∃ x b f, k = .int .i64 x ∧ Valid A x ∧ get k = tabV b wd.length ∧ Tab w b wd.length f ∧ Rep (lang A x) wd f ∧ Off X b wd.length

theorem TSt.keep {X Y : Nat → Prop} {A : List Nd} {wd : Word} {wv : Value} {ab nb db : Nat} {lim : Int} {w w' : World} (h : TSt X A wd wv ab nb db lim w) (k : Ext w.heap.size Y w w') (hY : ∀ b, b < w.heap.size → Y b → X b ∧ b ≠ ab ∧ b ≠ nb ∧ b ≠ db) : TSt X A wd wv ab nb db lim w' := by
  obtain ⟨get, ks, hm, hk⟩ := h.done
  refine ⟨h.ar.keep k (Nat.le_refl _) (fun b hb y => ⟨(hY b hb y).1, (hY b hb y).2.1, (hY b hb y).2.2.1⟩), h.word.ext k (Nat.le_refl _) (fun b hb y => (hY b hb y).1), h.xd, h.da, h.dn,
    fun z hz => Nat.lt_of_lt_of_le (h.xlt z hz) k.size, get, ks, hm.ext k hm.lt (fun y => (hY db hm.lt y).2.2.2 rfl), fun kk hkk => ?_⟩
  obtain ⟨x, b, f, h1, h2, h3, h4, h5, h6⟩ := hk kk hkk
  have top := h4.top
  exact ⟨x, b, f, h1, h2, h3, h4.ext k top (fun i hi1 hi2 y => h6 i (hY i (by omega) y).1 ⟨hi1, hi2⟩), h5, h6⟩

theorem TSt.below {X : Nat → Prop} {A : List Nd} {wd : Word} {wv : Value} {ab nb db : Nat} {lim : Int} {w w' : World} (h : TSt X A wd wv ab nb db lim w) (k : Below w.heap.size w w') : TSt X A wd wv ab nb db lim w' :=
  h.keep (Ext.of_below k (fun _ => False)) (fun _ _ y => y.elim)


/-- A key of an int. -/
theorem key_int (x : Int) (h0 : 0 ≤ x) (h1 : x < 9223372036854775808) : keyOf Tryz.prog 28 (.int .i64 x) = some (.int .i64 x) :=
  keyOf_int_mk Tryz.underlying28 (WalkArith.wf_i64 (by omega))
end Go.Proofs.Qxb6500848aGreatDoor
