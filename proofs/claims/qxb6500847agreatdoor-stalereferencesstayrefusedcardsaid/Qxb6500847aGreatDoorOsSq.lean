/-
  Stale references: a reference is born.
-/
import Derived.Test.Qxb6500847aGreatDoorOsSp
namespace Go.Proofs.Qxb6500847aGreatDoor.Os
open Go.RowKit FloorA
set_option maxRecDepth 100000
theorem Sm.congr {b n : Nat} {K K' : List (Nat × Nat)} {w : World} (h : Sm b n K w) (e : ∀ x, x ∈ K ↔ x ∈ K') : Sm b n K' w := by
  obtain ⟨D, hO, hK⟩ := h
  exact ⟨D, hO, fun i g l hi hg hl => by rw [hK i g l hi hg hl, decide_eq_decide.2 (e (i, g))]⟩
theorem refL_snoc (B : List (Nat × Nat)) (r : Nat × Nat) : refL (refN (B ++ [r])) = refL (refN B) ++ [.int .u16 (r.1 : Int), .int .u32 (r.2 : Int)] := by
  simp [refL, refN]
section
variable {P m1 m2 base : Nat} {w wr w1 w3 : World} {v b1 : Value} {A : Nat} {rb sb : Nat → Nat} {s : Av} {tl : Nat → List Int} {ws : Nat → Nat → Nat → Int} {L : Nat → List Nat} {n : Nat} {B D : List (Nat × Nat)} {r : Nat × Nat} {o : Obj}
theorem Sl.born (h : Sl P m1 m2 base w v A rb sb s tl ws L n B D wr) (hm : Sm m1 (B.length + 1) (r :: B) w1) (hg1 : wr.grownBy w1 (some m1)) (ho : w3.ownsRow base 32 2 b1 (B.length + 1) (refL (refN B) ++ [.int .u16 (r.1 : Int), .int .u32 (r.2 : Int)])) (hg3 : (w1.alloc o).grownBy w3 v.ownBlock) (hloc : b1.ownBlock = v.ownBlock ∨ b1.ownBlock = some (w1.alloc o).heap.size) (hb : Bn s r) :
    Sl P m1 m2 base w b1 A rb sb s tl ws L n (B ++ [r]) D w3 := by
  obtain ⟨c1, c2, c3, c4, c5⟩ := h.known hm hg1
  obtain ⟨n1, n2, n3⟩ := h.nt
  obtain ⟨q1, q2, q3, q4, q5, q6, q7, q8⟩ := h.ms
  obtain ⟨p1, p2, p3, p4, p5⟩ := h.bs
  have own2 := owns_lt h.own
  have hp7 := h.hs.p7
  have hsz : (w1.alloc o).heap.size = w1.heap.size + 1 := by simp
  have e : Ext w1.heap.size (fun b => v.ownBlock = some b) w1 w3 := ⟨hg3.os, hg3.tape, hg3.output, Nat.le_trans (by rw [hsz]; omega) hg3.size, fun k hk hx => (hg3.block k (by rw [hsz]; omega) (fun q => hx q.symm)).trans (heap_alloc_old _ _ hk)⟩
  have hT : ∀ b, v.ownBlock = some b → ¬ Tz A rb sb b ∧ 4 ≤ b ∧ b ≠ P := fun b hb => ⟨n3 b hb, by have := (own2 b hb).1; omega, by have := (own2 b hb).1; omega⟩
  have hk1 : Sm m1 (B.length + 1) (r :: B) w3 := hm.keep (e.block _ hm.lt (fun x => by have := (own2 _ x).1; omega))
  refine ⟨c1.ext e hT, ?_, ?_, c3.keep (e.block _ c3.lt (fun x => by have := (own2 _ x).1; omega)), h.ms, ⟨n1, n2, fun q hq => ?_⟩, ⟨Nat.le_trans c5 e.size, p2, p3, p4, p5⟩, fun x hx => ?_, h.dd, c4.trans (e.below' (Nat.le_trans p5 c5) (fun x hx q => by have := (own2 _ q).1; omega)), h.bz⟩
  · rw [refL_snoc, List.length_append]
    exact ho
  · rw [List.length_append]
    exact hk1.congr (fun x => by simp [or_comm])
  · rcases hloc with l | l
    · exact n3 q (by rw [← l]; exact hq)
    · rw [l] at hq
      have e1 : (w1.alloc o).heap.size = q := Option.some.inj hq
      exact fun t => by have := c1.ms.tzlt q t; omega
  · rcases List.mem_append.1 hx with hx | hx
    · exact h.bn x hx
    · obtain rfl := List.mem_singleton.1 hx
      exact hb
end
end Go.Proofs.Qxb6500847aGreatDoor.Os
