/-
  The reader, by the numbers that are left.
-/
import Derived.Test.Qxb6500847aGreatDoorOsEc
import Derived.Test.Qxb6500847aGreatDoorOsDa
namespace Go.Proofs.Qxb6500847aGreatDoor.Os
open Go.RowKit FloorA
set_option maxRecDepth 100000
theorem bytes_part {w : World} {g o : Nat} {a b c : List Int} (h : BytesAt w g o (a ++ b ++ c)) : BytesAt w g (o + a.length) b := fun i hi => by
  have := h (a.length + i) (by simp; omega)
  have e : (a ++ b ++ c).getD (a.length + i) 0 = b.getD i 0 := by
    rw [List.append_assoc, List.getD_eq_getElem?_getD, List.getElem?_append_right (by omega), show a.length + i - a.length = i by omega, List.getElem?_append_left hi, ← List.getD_eq_getElem?_getD]
  rw [e, ← Nat.add_assoc] at this
  exact this
/-- The reader: of the numbers N, rest is left. -/
structure Rn (D A g cap : Nat) (N rest : List Nat) (w : World) : Prop where
  rd : ∃ pre, N = pre ++ rest ∧ Rd D A g (eN N).length cap (eN pre).length w
  by' : BytesAt w g 0 (eN N)
  sm : ∀ x ∈ N, x < 18446744073709551616
  len : (eN N).length ≤ 3000000
  cap' : (eN N).length ≤ cap
  ne : g ≠ D
  gl : g < w.heap.size
section
variable {D A g cap : Nat} {N rest : List Nat} {w w' : World}
theorem Rn.lt (h : Rn D A g cap N rest w) : D < w.heap.size := by obtain ⟨pre, _, h⟩ := h.rd; exact h.lt
theorem Rn.ext {T : Nat → Prop} (h : Rn D A g cap N rest w) (e : Ext w.heap.size T w w') (hD : ¬ T D) (hg : ¬ T g) : Rn D A g cap N rest w' := by
  obtain ⟨pre, e1, r⟩ := h.rd
  refine ⟨⟨pre, e1, r.ext e hD⟩, fun i hi => ?_, h.sm, h.len, h.cap', h.ne, Nat.lt_of_lt_of_le h.gl e.size⟩
  have := h.by' i hi
  rw [e.cell (p := ⟨g, 0 + i, none⟩) h.gl hg]
  exact this
theorem Rn.setAt (h : Rn D A g cap N rest w) (i : Nat) (u : Int) : Rn D A g cap N rest (w.setCell ⟨D, 4 + i, none⟩ (.int .i64 u)) := by
  obtain ⟨pre, e1, r⟩ := h.rd
  refine ⟨⟨pre, e1, r.setAt i u⟩, fun j hj => ?_, h.sm, h.len, h.cap', h.ne, by simpa using h.gl⟩
  rw [set_other (fun q => h.ne (congrArg Addr.block q).symm)]
  exact h.by' j hj
def NrPost (D A g cap : Nat) (N : List Nat) (v : Nat) (rest : List Nat) (most : Int) (w : World) (e : Ending) (w' : World) : Prop :=
  Ext w.heap.size (fun b => b = D) w w' ∧ (((v : Int) ≤ most ∧ e = .returned (.int .u64 (v : Int)) ∧ Rn D A g cap N rest w') ∨ (¬ (v : Int) ≤ most ∧ e = .returned (.int .u64 0) ∧ Flt D A w'))
theorem num_walk {v : Nat} (h : Rn D A g cap N (v :: rest) w) (what : ByteArray) (most : Int) (hws : what.size ≤ 100) :
    Calls Tryz.prog 103 #[.pointer (some ⟨D, 0, none⟩), .string what, .int .u64 most] w (NrPost D A g cap N v rest most w) := by
  obtain ⟨pre, e1, r⟩ := h.rd
  have eN1 : eN N = eN pre ++ uvs v ++ eN rest := by rw [e1, eN_append, show v :: rest = [v] ++ rest from rfl, eN_append, eN_one, List.append_assoc]
  have hb : BytesAt w g (eN pre).length (uvs v) := by
    have := h.by'
    rw [eN1] at this
    have := bytes_part this
    rw [Nat.zero_add] at this
    exact this
  have hl : (eN pre).length + (uvs v).length ≤ (eN N).length := by rw [eN1]; simp only [List.length_append]; omega
  refine (number_walk r v what most hws (h.sm v (by rw [e1]; simp)) hl (by have := h.len; unfold big; omega) h.cap' hb).mono ?_
  rintro e w' ⟨hx, ⟨k1, rfl, k2⟩ | ⟨k1, rfl, k2⟩⟩
  · refine ⟨hx, Or.inl ⟨k1, rfl, ⟨pre ++ [v], by rw [e1]; simp, ?_⟩, fun i hi => ?_, h.sm, h.len, h.cap', h.ne, Nat.lt_of_lt_of_le h.gl hx.size⟩⟩
    · rw [eN_append, eN_one, List.length_append]; exact k2
    · rw [hx.cell (p := ⟨g, 0 + i, none⟩) h.gl h.ne]
      exact h.by' i hi
  · exact ⟨hx, Or.inr ⟨k1, rfl, k2⟩⟩
/-- A number in its range is read. -/
theorem num_x {v : Nat} (h : Rn D A g cap N (v :: rest) w) (what : ByteArray) (most : Int) (hws : what.size ≤ 100) (hv : (v : Int) ≤ most) :
    Calls Tryz.prog 103 #[.pointer (some ⟨D, 0, none⟩), .string what, .int .u64 most] w (fun e w' => e = .returned (.int .u64 (v : Int)) ∧ Ext w.heap.size (fun b => b = D) w w' ∧ Rn D A g cap N rest w') := by
  refine (num_walk h what most hws).mono ?_
  rintro e w' ⟨hx, ⟨_, rfl, k2⟩ | ⟨k1, _, _⟩⟩
  · exact ⟨rfl, hx, k2⟩
  · exact absurd hv k1
theorem Rn.fail (h : Rn D A g cap N rest w) (at' : Int) (reason : ByteArray) :
    Calls Tryz.prog 104 #[.pointer (some ⟨D, 0, none⟩), .int .i64 at', .string reason] w (FaPost D A w) := by
  obtain ⟨pre, e1, r⟩ := h.rd
  exact fail_walk r at' reason
theorem Rn.pos (h : Rn D A g cap N rest w) : ∃ p : Nat, w.cell? ⟨D, 1, none⟩ = some (.int .i64 (p : Int)) ∧ p ≤ (eN N).length := by
  obtain ⟨pre, e1, r⟩ := h.rd
  exact ⟨_, r.pos, by rw [e1, eN_append]; simp⟩
theorem Rn.err (h : Rn D A g cap N rest w) : w.cell? ⟨D, 2, none⟩ = some (.pointer none) := by
  obtain ⟨pre, e1, r⟩ := h.rd
  exact r.err
theorem Rn.ar (h : Rn D A g cap N rest w) : w.cell? ⟨D, 3, none⟩ = some (.pointer (some ⟨A, 0, none⟩)) := by
  obtain ⟨pre, e1, r⟩ := h.rd
  exact r.ar
theorem Rn.at' (h : Rn D A g cap N rest w) {i : Nat} (hi : i < 320) : ∃ x, w.cell? ⟨D, 4 + i, none⟩ = some (.int .i64 x) := by
  obtain ⟨pre, e1, r⟩ := h.rd
  exact r.at' i hi
theorem Rn.frz (h : Rn D A g cap N rest w) (o : Nat) : w.frozen? ⟨D, o, none⟩ = false := by
  obtain ⟨pre, e1, r⟩ := h.rd
  exact r.frz o
theorem Flt.ext {T : Nat → Prop} (h : Flt D A w) (e : Ext w.heap.size T w w') (hT : ∀ b, T b → ∀ o, w.cell? ⟨b, 0, none⟩ ≠ some (.int .i64 o)) (hD : ¬ T D) : Flt D A w' := by
  obtain ⟨⟨b, off, s, h1, h2, h3⟩, ⟨p, hp⟩, h4⟩ := h
  have l : D < w.heap.size := cell_lt h1
  have lb : b < w.heap.size := cell_lt h2
  have nb : ¬ T b := fun q => hT b q off h2
  exact ⟨⟨b, off, s, (e.cell (p := ⟨D, 2, none⟩) l hD).trans h1, (e.cell (p := ⟨b, 0, none⟩) lb nb).trans h2, (e.cell (p := ⟨b, 1, none⟩) lb nb).trans h3⟩, ⟨p, (e.cell (p := ⟨D, 1, none⟩) l hD).trans hp⟩, (e.cell (p := ⟨D, 3, none⟩) l hD).trans h4⟩
end
end Go.Proofs.Qxb6500847aGreatDoor.Os
