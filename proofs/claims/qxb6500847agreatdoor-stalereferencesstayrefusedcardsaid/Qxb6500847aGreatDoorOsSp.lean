/-
  Stale references: the state between two steps.
-/
import Derived.Test.Qxb6500847aGreatDoorOsSo
import Derived.Test.Qxb6500847aGreatDoorOsQc
namespace Go.Proofs.Qxb6500847aGreatDoor.Os
open Go.RowKit FloorA
set_option maxRecDepth 100000
def refN (B : List (Nat × Nat)) : List (Nat × Int) := B.map (fun r => (r.1, (r.2 : Int)))
/-- A row that is owned stays where its block stays. -/
theorem owns_keep {base T k : Nat} {v : Value} {n : Nat} {xs : List Value} {w w' : World} (h : w.ownsRow base T k v n xs) (e : ∀ q, v.ownBlock = some q → w'.heap[q]? = w.heap[q]?) : w'.ownsRow base T k v n xs := by
  refine ⟨h.1, h.2.imp id ?_⟩
  rintro ⟨g', cap', cur, e1, e2, e3, e4⟩
  exact ⟨g', cap', cur, e1, e2, (e g' (by rw [e1]; rfl)).trans e3, e4⟩
theorem owns_lt {base T k : Nat} {v : Value} {n : Nat} {xs : List Value} {w : World} (h : w.ownsRow base T k v n xs) : ∀ q, v.ownBlock = some q → base ≤ q ∧ q < w.heap.size := fun q hq => by
  rcases h.2 with ⟨e1, _⟩ | ⟨g', cap', cur, e1, e2, e3, _⟩
  · rw [e1] at hq; cases hq
  · rw [e1] at hq
    obtain rfl : g' = q := Option.some.inj hq
    exact ⟨e2, (Array.getElem?_eq_some_iff.1 e3).1⟩
/-- Between two steps: the arena, the list of references handed out, the two maps. -/
structure Sl (P m1 m2 base : Nat) (w : World) (v : Value) (A : Nat) (rb sb : Nat → Nat) (s : Av) (tl : Nat → List Int) (ws : Nat → Nat → Nat → Int) (L : Nat → List Nat) (n : Nat) (B D : List (Nat × Nat)) (wr : World) : Prop where
  hs : Hs P A rb sb s tl ws L n wr
  own : wr.ownsRow base 32 2 v B.length (refL (refN B))
  k1 : Sm m1 B.length B wr
  k2 : Sm m2 D.length D wr
  ms : m1 ≠ m2 ∧ m1 < base ∧ m2 < base ∧ P < base ∧ m1 ≠ P ∧ m2 ≠ P ∧ 4 ≤ m1 ∧ 4 ≤ m2
  nt : ¬ Tz A rb sb m1 ∧ ¬ Tz A rb sb m2 ∧ ∀ q, v.ownBlock = some q → ¬ Tz A rb sb q
  bs : base ≤ wr.heap.size ∧ w.heap.size ≤ m1 ∧ w.heap.size ≤ m2 ∧ w.heap.size ≤ P ∧ w.heap.size ≤ base
  bn : ∀ r ∈ B, Bn s r
  dd : ∀ r ∈ D, Dd s r.1 (r.2 : Int)
  bw : Below w.heap.size w wr
  bz : ∀ b, Tz A rb sb b → w.heap.size ≤ b
section
variable {P m1 m2 base : Nat} {w wr w' : World} {v : Value} {A : Nat} {rb sb : Nat → Nat} {s : Av} {tl : Nat → List Int} {ws : Nat → Nat → Nat → Int} {L : Nat → List Nat} {n : Nat} {B D : List (Nat × Nat)}
theorem Sl.below (h : Sl P m1 m2 base w v A rb sb s tl ws L n B D wr) (k : Below wr.heap.size wr w') : Sl P m1 m2 base w v A rb sb s tl ws L n B D w' :=
  ⟨h.hs.below k, owns_keep h.own (fun q hq => k.block q (owns_lt h.own q hq).2), h.k1.keep (k.block _ h.k1.lt), h.k2.keep (k.block _ h.k2.lt), h.ms, h.nt, ⟨Nat.le_trans h.bs.1 k.size, h.bs.2⟩, h.bn, h.dd, h.bw.trans (k.mono (Nat.le_trans h.bs.2.2.2.2 h.bs.1)), h.bz⟩
/-- A step. -/
theorem Sl.play {A' : Nat} {rb' sb' : Nat → Nat} {s' : Av} {tl' : Nat → List Int} {ws' : Nat → Nat → Nat → Int} {L' : Nat → List Nat} {n' : Nat} (h : Sl P m1 m2 base w v A rb sb s tl ws L n B D wr) (h2 : Hs P A' rb' sb' s' tl' ws' L' n' w') (e : Ext wr.heap.size (fun b => Tz A rb sb b ∨ b = P) wr w') (ha : (A' = A ∧ rb' = rb ∧ sb' = sb) ∨ ∀ b, Tz A' rb' sb' b → wr.heap.size ≤ b) (ad : Adv s s') :
    Sl P m1 m2 base w v A' rb' sb' s' tl' ws' L' n' B D w' := by
  obtain ⟨n1, n2, n3⟩ := h.nt
  obtain ⟨q1, q2, q3, q4, q5, q6, q7, q8⟩ := h.ms
  obtain ⟨p1, p2, p3, p4, p5⟩ := h.bs
  have t : ∀ x, x < wr.heap.size → ¬ Tz A rb sb x → ¬ Tz A' rb' sb' x := fun x hx hn q => by
    rcases ha with ⟨rfl, rfl, rfl⟩ | ha
    · exact hn q
    · have := ha x q; omega
  have own2 := owns_lt h.own
  have hP : ∀ q, v.ownBlock = some q → q ≠ P := fun q hq => by have := (own2 q hq).1; omega
  refine ⟨h2, owns_keep h.own (fun q hq => e.block q (own2 q hq).2 (fun x => x.elim (n3 q hq) (hP q hq))), h.k1.keep (e.block _ h.k1.lt (fun x => x.elim n1 q5)), h.k2.keep (e.block _ h.k2.lt (fun x => x.elim n2 q6)), h.ms, ⟨t _ h.k1.lt n1, t _ h.k2.lt n2, fun q hq => t q (own2 q hq).2 (n3 q hq)⟩, ⟨Nat.le_trans p1 e.size, p2, p3, p4, p5⟩, fun r hr => (h.bn r hr).adv ad, fun r hr => (h.dd r hr).adv ad, h.bw.trans (e.below' (Nat.le_trans p5 p1) (fun x hx q => ?_)), fun b hb => ?_⟩
  · rcases q with q | q
    · have := h.bz x q; omega
    · omega
  · rcases ha with ⟨rfl, rfl, rfl⟩ | ha
    · exact h.bz b hb
    · have := ha b hb; omega
/-- A reference is marked dead. -/
theorem Sl.dead {r : Nat × Nat} (h : Sl P m1 m2 base w v A rb sb s tl ws L n B D wr) (hm : Sm m2 (D.length + 1) (r :: D) w') (hg : wr.grownBy w' (some m2)) (hd : Dd s r.1 (r.2 : Int)) : Sl P m1 m2 base w v A rb sb s tl ws L n B (r :: D) w' := by
  obtain ⟨n1, n2, n3⟩ := h.nt
  obtain ⟨q1, q2, q3, q4, q5, q6, q7, q8⟩ := h.ms
  obtain ⟨p1, p2, p3, p4, p5⟩ := h.bs
  have own2 := owns_lt h.own
  have e : Ext wr.heap.size (fun b => b = m2) wr w' := ⟨hg.os, hg.tape, hg.output, hg.size, fun k hk hx => hg.block k hk (fun q => hx (Option.some.inj q))⟩
  refine ⟨h.hs.ext e (fun b hb => by subst hb; exact ⟨n2, q8, q6⟩), owns_keep h.own (fun q hq => e.block q (own2 q hq).2 (fun x => by have := (own2 q hq).1; omega)), h.k1.keep (e.block _ h.k1.lt q1), hm, h.ms, h.nt, ⟨Nat.le_trans p1 hg.size, p2, p3, p4, p5⟩, h.bn, fun x hx => ?_, h.bw.trans (e.below' (Nat.le_trans p5 p1) (fun x hx q => by omega)), h.bz⟩
  rcases List.mem_cons.1 hx with rfl | hx
  · exact hd
  · exact h.dd x hx
/-- A reference is listed as known. -/
theorem Sl.known {r : Nat × Nat} (h : Sl P m1 m2 base w v A rb sb s tl ws L n B D wr) (hm : Sm m1 (B.length + 1) (r :: B) w') (hg : wr.grownBy w' (some m1)) :
    Hs P A rb sb s tl ws L n w' ∧ w'.ownsRow base 32 2 v B.length (refL (refN B)) ∧ Sm m2 D.length D w' ∧ Below w.heap.size w w' ∧ base ≤ w'.heap.size := by
  obtain ⟨n1, n2, n3⟩ := h.nt
  obtain ⟨q1, q2, q3, q4, q5, q6, q7, q8⟩ := h.ms
  obtain ⟨p1, p2, p3, p4, p5⟩ := h.bs
  have own2 := owns_lt h.own
  have e : Ext wr.heap.size (fun b => b = m1) wr w' := ⟨hg.os, hg.tape, hg.output, hg.size, fun k hk hx => hg.block k hk (fun q => hx (Option.some.inj q))⟩
  exact ⟨h.hs.ext e (fun b hb => by subst hb; exact ⟨n1, q7, q5⟩), owns_keep h.own (fun q hq => e.block q (own2 q hq).2 (fun x => by have := (own2 q hq).1; omega)), h.k2.keep (e.block _ h.k2.lt (fun x => q1 x.symm)), h.bw.trans (e.below' (Nat.le_trans p5 p1) (fun x hx q => by omega)), Nat.le_trans p1 hg.size⟩
end
end Go.Proofs.Qxb6500847aGreatDoor.Os
