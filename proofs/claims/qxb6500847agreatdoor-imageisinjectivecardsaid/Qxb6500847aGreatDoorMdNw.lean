/-
  The abstract model: New.
-/
import Derived.Test.Qxb6500847aGreatDoorMdI
namespace Go.Proofs.Qxb6500847aGreatDoor.Os
open Go.RowKit FloorA
set_option maxRecDepth 100000
theorem z150 : Tryz.zeroCells150.size = 1920 := by kernel_rfl
/-- The first k entries are free, of the first generation. -/
structure Nw (w : World) (B k : Nat) : Prop where
  ent : ∀ i, i < k → w.rangeAt B (i * 6) (ent6 (enF 1) (.slice none 0 0))
  th : w.there B 0 1920
  fz : ∀ o, w.frozen? ⟨B, o, none⟩ = false
theorem fz_nw {W : World} {q T : Nat} {cs : Array Value} (h : W.heap[q]? = some (.cells cs T (0, 0))) (o : Nat) : W.frozen? ⟨q, o, none⟩ = false := by simp [World.frozen?, h]
section
variable {w w' : World} {B k : Nat}
theorem Nw.next (h : Nw w B k) (hk : k < 320) : Nw (w.setCells B (k * 6) (ent6 (enF 1) (.slice none 0 0))) B (k + 1) := by
  have hth : w.there B (k * 6) 6 := fun j hj => by
    have := h.th (k * 6 + j) (by omega)
    rw [Nat.zero_add] at this
    exact this
  refine ⟨fun i hi => ?_, fun o ho => ⟨?_, by rw [World.frozen?_setCells]; exact (h.th o ho).2⟩, fun o => by rw [World.frozen?_setCells]; exact h.fz o⟩
  · by_cases q : i = k
    · subst q
      exact World.rangeAt_setCells_same w B (i * 6) _ hth
    · refine World.rangeAt_setCells_apart (h.ent i (by omega)) B (k * 6) _ (Or.inr ?_)
      show i * 6 + 6 ≤ k * 6 ∨ k * 6 + 6 ≤ i * 6
      omega
  · rw [Nat.zero_add]
    by_cases q : k * 6 ≤ o ∧ o < k * 6 + 6
    · have hs := World.rangeAt_setCells_same w B (k * 6) (ent6 (enF 1) (.slice none 0 0)) hth
      obtain ⟨v, hv⟩ : ∃ v, (ent6 (enF 1) (.slice none 0 0))[o - k * 6]? = some v := ⟨_, List.getElem?_eq_getElem (by show _ < 6; omega)⟩
      have := hs (o - k * 6) v hv
      rw [show k * 6 + (o - k * 6) = o by omega] at this
      rw [this]
      rfl
    · rw [World.cell?_setCells_out B _ _ _ _ (fun _ _ => by show o < k * 6 ∨ k * 6 + 6 ≤ o; omega)]
      have := (h.th o ho).1
      rw [Nat.zero_add] at this
      exact this
theorem Nw.md (h : Nw w B 320) {M : Nat → En} (hM : ∀ i, i < 320 → M i = enF 1) (wb : Nat → Nat) : Md w B wb M := by
  have hl : ∀ i, i < 320 → (M i).wds = [] := fun i hi => by rw [hM i hi]; rfl
  refine ⟨fun i hi k x hx => ?_, fun i hi => ⟨.slice none 0 0, h.ent i hi 5 _ rfl, Or.inl ⟨hl i hi, _, _, rfl⟩⟩, fun o => ?_, fun i hi q => absurd (hl i hi) q, fun i j hi _ q => absurd (hl i hi) q⟩
  · rw [hM i hi] at hx
    refine h.ent i hi k x ?_
    match k, hx with
    | 0, hx => exact hx
    | 1, hx => exact hx
    | 2, hx => exact hx
    | 3, hx => exact hx
    | 4, hx => exact hx
    | k + 5, hx => simp [entL] at hx
  · exact h.fz o
set_option maxHeartbeats 8000000 in
theorem new_m (w : World) : Calls Tryz.prog 12 #[] w fun e w' => e = .returned (.pointer (some ⟨w.heap.size, 0, none⟩)) ∧ Below w.heap.size w w' ∧ w.heap.size < w'.heap.size ∧ ∀ (M : Nat → En) (wb : Nat → Nat), (∀ i, i < 320 → M i = enF 1) → Md w' w.heap.size wb M := by
  have h0 : Hid (Nw (w.alloc (.cells Tryz.zeroCells150 150)) w.heap.size 0) := ⟨fun i hi => by omega, fun o ho => by
    have hn : (w.alloc (.cells Tryz.zeroCells150 150)).heap[w.heap.size]? = some (.cells Tryz.zeroCells150 150 (0, 0)) := heap_new _ _
    refine ⟨?_, fz_nw hn _⟩
    rw [Nat.zero_add, cell_of_row _ _ _ _ _ _ hn, Array.getElem?_eq_getElem (by rw [z150]; exact ho)]
    rfl, fun o => fz_nw (heap_new w _) o⟩
  have hb0 := hideIt (alloc_below (w := w) (.cells Tryz.zeroCells150 150))
  have hs0 : Hid (w.heap.size < (w.alloc (.cells Tryz.zeroCells150 150)).heap.size) := by show _ < _; simp
  go_enter Tryz.func12, Tryz.ntmps12
  go_wp2_with fail
  generalize w.alloc (.cells Tryz.zeroCells150 150) = W at *
  go_loopw [5] (fun v5 wr => ∃ k : Nat, k ≤ 320 ∧ v5 = .int .i64 (k : Int) ∧ Nw wr w.heap.size k ∧ Below w.heap.size w wr ∧ w.heap.size < wr.heap.size) (fun j _ => 320 - (intOf j).toNat)
  case atStart => exact ⟨0, by omega, rfl, h0.out, hb0.out, hs0.out⟩
  case round =>
    obtain ⟨k, hk, rfl, hn, hbr, hsr⟩ := hrel
    by_cases hlt : k < 320
    · have hlt' : (k : Int) < 320 := by omega
      have cl : ∀ j, j < 6 → ∃ v, wr.cell? ⟨w.heap.size, k * 6 + j, none⟩ = some v := fun j hj => by
        have := (hn.th (k * 6 + j) (by omega)).1
        rw [Nat.zero_add] at this
        exact Option.isSome_iff_exists.1 this
      have fz : ∀ j, j < 6 → wr.frozen? ⟨w.heap.size, k * 6 + j, none⟩ = false := fun j hj => by
        have := (hn.th (k * 6 + j) (by omega)).2
        rw [Nat.zero_add] at this
        exact this
      obtain ⟨v0, c0⟩ := cl 0 (by omega)
      obtain ⟨v1, c1⟩ := cl 1 (by omega)
      obtain ⟨v2, c2⟩ := cl 2 (by omega)
      obtain ⟨v3, c3⟩ := cl 3 (by omega)
      obtain ⟨v4, c4⟩ := cl 4 (by omega)
      obtain ⟨v5, c5⟩ := cl 5 (by omega)
      have f0 := fz 0 (by omega)
      have f1 := fz 1 (by omega)
      have f2 := fz 2 (by omega)
      have f3 := fz 3 (by omega)
      have f4 := fz 4 (by omega)
      have f5 := fz 5 (by omega)
      rw [Nat.add_zero] at c0 f0
      have HN := hideIt (hn.next hlt)
      have HB := hideIt (Ext.cells (B := w.heap.size) (Ext.of_below hbr (fun b => b = w.heap.size)) rfl (ent6 (enF 1) (.slice none 0 0)) (k * 6))
      have HSZ : Hid (w.heap.size < (wr.setCells w.heap.size (k * 6) (ent6 (enF 1) (.slice none 0 0))).heap.size) := Nat.lt_of_lt_of_le hsr (Ext.cells (B := w.heap.size) (Ext.refl wr.heap.size (fun b => b = w.heap.size) wr) rfl (ent6 (enF 1) (.slice none 0 0)) (k * 6)).size
      clear hn hbr cl fz
      go_wp2_with fail
      go_roundw
      case rel => exact ⟨k + 1, by omega, by go_num, HN.out, ⟨HB.out.os, HB.out.tape, HB.out.output, HB.out.size, fun q hq => HB.out.block q hq (by omega)⟩, HSZ.out⟩
      case measure => simp [intOf]; omega
    · have hk3 : k = 320 := by omega
      subst hk3
      have HN := hideIt hn
      have HB := hideIt hbr
      clear hn hbr
      go_wp2_with fail
      go_ret
      exact ⟨rfl, HB.out, hsr, fun M wb hM => HN.out.md hM wb⟩
end
end Go.Proofs.Qxb6500847aGreatDoor.Os
