/-
  The walks of the tables: blank, empties, join, either, powers.
-/
import Derived.Test.Qxb6500848aGreatDoorWalkA
import Derived.Deep.OwnRows
import Derived.Laws.OwnMore
namespace Go.Proofs.Qxb6500848aGreatDoor
open Go.RowKit Pl
set_option maxRecDepth 100000

theorem info_bool : (Tryz.prog.info? 4).map (fun i => (i.zero, i.size, i.bytes)) = some (some (.bool false), 1, 1) := by kernel_rfl
theorem info_bools : (Tryz.prog.info? 132).map (fun i => (i.zero, i.size, i.bytes)) = some (some (.slice none 0 0), 1, 24) := by kernel_rfl

/-- A table as 'blank' lays it: the slice of rows in block t, row i in block t + 1 + i. -/
structure Tab (w : World) (t n : Nat) (f : Nat → Nat → Bool) : Prop where
  rows : ∀ i, i ≤ n → w.cell? ⟨t, i, none⟩ = some (.slice (some ⟨t + 1 + i, 0, none⟩) (n + 1) (n + 1))
  cells : ∀ i j, i ≤ n → j ≤ n → w.cell? ⟨t + 1 + i, j, none⟩ = some (.bool (f i j)) ∧ w.frozen? ⟨t + 1 + i, j, none⟩ = false

abbrev tabV (t n : Nat) : Value := .slice (some ⟨t, 0, none⟩) (n + 1) (n + 1)

theorem ne_block {b b' o o' : Nat} (h : b ≠ b') : (⟨b, o, none⟩ : Addr) ≠ ⟨b', o', none⟩ := fun e => h (by cases e; rfl)
theorem ne_off {b b' o o' : Nat} (h : o ≠ o') : (⟨b, o, none⟩ : Addr) ≠ ⟨b', o', none⟩ := fun e => h (by cases e; rfl)

theorem Tab.top {w : World} {t n : Nat} {f : Nat → Nat → Bool} (h : Tab w t n f) : t + 1 + n < w.heap.size := cell_lt (h.cells n 0 (Nat.le_refl _) (Nat.zero_le _)).1

theorem Tab.ext {w w' : World} {t n B : Nat} {X : Nat → Prop} {f : Nat → Nat → Bool} (h : Tab w t n f) (k : Ext B X w w') (hB : t + 1 + n < B) (hX : ∀ i, t ≤ i → i ≤ t + 1 + n → ¬ X i) : Tab w' t n f := by
  refine ⟨fun i hi => ?_, fun i j hi hj => ⟨?_, ?_⟩⟩
  · rw [k.cell (p := ⟨t, i, none⟩) (by show t < B; omega) (hX t (by omega) (by omega))]; exact h.rows i hi
  · rw [k.cell (p := ⟨t + 1 + i, j, none⟩) (show t + 1 + i < B by omega) (hX (t + 1 + i) (by omega) (by omega))]; exact (h.cells i j hi hj).1
  · rw [World.frozen?_of_block (w := w) (k.block (t + 1 + i) (by omega) (hX (t + 1 + i) (by omega) (by omega)))]; exact (h.cells i j hi hj).2
theorem Tab.below {w w' : World} {t n B : Nat} {f : Nat → Nat → Bool} (h : Tab w t n f) (k : Below B w w') (hB : t + 1 + n < B) : Tab w' t n f :=
  h.ext (Ext.of_below k (fun _ => False)) hB (fun _ _ _ x => x)

theorem Tab.congr {w : World} {t n : Nat} {f g : Nat → Nat → Bool} (h : Tab w t n f) (e : ∀ i j, i ≤ n → j ≤ n → f i j = g i j) : Tab w t n g :=
  ⟨h.rows, fun i j hi hj => by rw [← e i j hi hj]; exact h.cells i j hi hj⟩

def upd (f : Nat → Nat → Bool) (i j : Nat) (b : Bool) : Nat → Nat → Bool := fun i' j' => if i' = i ∧ j' = j then b else f i' j'

theorem Tab.set {w : World} {t n : Nat} {f : Nat → Nat → Bool} (h : Tab w t n f) {i j : Nat} (hi : i ≤ n) (hj : j ≤ n) (b : Bool) : Tab (w.setCell ⟨t + 1 + i, j, none⟩ (.bool b)) t n (upd f i j b) := by
  refine ⟨fun k hk => ?_, fun i' j' hi' hj' => ⟨?_, ?_⟩⟩
  · rw [World.cell?_setCell_other _ _ _ _ (ne_block (by omega))]; exact h.rows k hk
  · unfold upd
    by_cases e : i' = i ∧ j' = j
    · obtain ⟨rfl, rfl⟩ := e
      rw [World.cell?_setCell_same _ _ _ (h.cells i' j' hi' hj').1]; simp
    · have hne : (⟨t + 1 + i, j, none⟩ : Addr) ≠ ⟨t + 1 + i', j', none⟩ := by
        by_cases e1 : i' = i
        · exact ne_off (fun e2 => e ⟨e1, e2.symm⟩)
        · exact ne_block (by omega)
      rw [World.cell?_setCell_other _ _ _ _ hne, if_neg e]; exact (h.cells i' j' hi' hj').1
  · rw [World.frozen?_setCell]; exact (h.cells i' j' hi' hj').2

/-- While 'blank' fills in its rows. -/
structure Blk (w0 : World) (n k : Nat) (w : World) : Prop where
  size : w.heap.size = w0.heap.size + 1 + k
  below : Below w0.heap.size w0 w
  head : ∀ i, i ≤ n → (∃ u, w.cell? ⟨w0.heap.size, i, none⟩ = some u) ∧ w.frozen? ⟨w0.heap.size, i, none⟩ = false
  rows : ∀ i, i < k → w.cell? ⟨w0.heap.size, i, none⟩ = some (.slice (some ⟨w0.heap.size + 1 + i, 0, none⟩) (n + 1) (n + 1))
  cells : ∀ i j, i < k → j ≤ n → w.cell? ⟨w0.heap.size + 1 + i, j, none⟩ = some (.bool false) ∧ w.frozen? ⟨w0.heap.size + 1 + i, j, none⟩ = false

theorem made_get (z : Value) (n j : Nat) (h : j < n) : (madeCells #[z] n)[j]? = some z := by
  rw [← Array.getElem?_toList, toList_madeCells_one]
  simp [h]

theorem blk_start (w0 : World) (n : Nat) : Blk w0 n 0 (w0.alloc (.cells (madeCells #[.slice none 0 0] (n + 1)) 132)) := by
  refine ⟨by simp, (Below.refl _ _).alloc (Nat.le_refl _) _, fun i hi => ⟨⟨.slice none 0 0, ?_⟩, by simp⟩, fun i hi => by omega, fun i j hi => by omega⟩
  rw [World.cell?_alloc_new]; exact made_get _ _ _ (by omega)

theorem blk_step {w0 w : World} {n k : Nat} (h : Blk w0 n k w) (hk : k ≤ n) :
    Blk w0 n (k + 1) ((w.setCell ⟨w0.heap.size, k, none⟩ (.slice (some ⟨w.heap.size, 0, none⟩) (n + 1) (n + 1))).alloc (.cells (madeCells #[.bool false] (n + 1)) 4)) := by
  obtain ⟨h1, h2, h3, h4, h5⟩ := h
  have es : ∀ a u, (w.setCell a u).heap.size = w.heap.size := fun a u => World.size_setCell _ _ _
  have old : ∀ a u o b i, b < w.heap.size → ((w.setCell a u).alloc o).cell? ⟨b, i, none⟩ = (w.setCell a u).cell? ⟨b, i, none⟩ := fun a u o b i hb => World.cell?_alloc_lt _ _ _ (by rw [es]; exact hb)
  have oldf : ∀ a u o b i, b < w.heap.size → ((w.setCell a u).alloc o).frozen? ⟨b, i, none⟩ = w.frozen? ⟨b, i, none⟩ := fun a u o b i hb => by
    rw [World.frozen?_alloc_old _ _ _ (by rw [es]; exact Nat.ne_of_lt hb), World.frozen?_setCell]
  refine ⟨by rw [World.size_alloc, es]; omega, (h2.setCell (Nat.le_refl _) _).alloc (by rw [es]; omega) _, fun i hi => ⟨?_, ?_⟩, fun i hi => ?_, fun i j hi hj => ⟨?_, ?_⟩⟩
  · rw [old _ _ _ _ _ (by omega)]
    by_cases e : i = k
    · subst e
      obtain ⟨u, hu⟩ := (h3 i hi).1
      exact ⟨_, World.cell?_setCell_same _ _ _ hu⟩
    · rw [World.cell?_setCell_other _ _ _ _ (ne_off (by omega))]; exact (h3 i hi).1
  · rw [oldf _ _ _ _ _ (by omega)]; exact (h3 i hi).2
  · rw [old _ _ _ _ _ (by omega)]
    by_cases e : i = k
    · subst e
      obtain ⟨u, hu⟩ := (h3 i hk).1
      rw [World.cell?_setCell_same _ _ _ hu, h1]
    · rw [World.cell?_setCell_other _ _ _ _ (ne_off (by omega))]; exact h4 i (by omega)
  · by_cases e : i = k
    · subst e
      rw [World.cell?_alloc_at (hn := by rw [es]; omega)]; exact made_get _ _ _ (by omega)
    · rw [old _ _ _ _ _ (by omega), World.cell?_setCell_other _ _ _ _ (ne_block (by omega))]; exact (h5 i j (by omega) hj).1
  · by_cases e : i = k
    · subst e
      rw [World.frozen?_alloc_at (hn := by rw [es]; omega)]
    · rw [oldf _ _ _ _ _ (by omega)]; exact (h5 i j (by omega) hj).2

set_option maxHeartbeats 1000000 in
theorem blank_walk (n : Nat) (hn : n ≤ 1000) (w : World) :
    Calls Tryz.prog 121 #[.int .i64 n] w fun e w' => e = .returned (tabV w.heap.size n) ∧ Tab w' w.heap.size n (fun _ _ => false) ∧ Below w.heap.size w w' ∧ w'.heap.size = w.heap.size + 2 + n := by
  have hm1 := run_make_row' (P := Tryz.prog) 134 132 (.slice none 0 0) 24 Tryz.underlying134 info_bools rfl .i64 .i64 (n + 1) (by omega) (by omega)
  have hm2 := run_make_row' (P := Tryz.prog) 132 4 (.bool false) 1 Tryz.underlying132 info_bool rfl .i64 .i64 (n + 1) (by omega) (by omega)
  have ec : ((n + 1 : Nat) : Int) = (n : Int) + 1 := by omega
  rw [ec] at hm1 hm2
  go_enter Tryz.func121, Tryz.ntmps121
  go_wp2
  go_loopw [10] (fun i wr => ∃ k : Nat, k ≤ n + 1 ∧ i = .int .i64 k ∧ Blk w n k wr) (fun i _ => n + 1 - (intOf i).toNat)
  case atStart => exact ⟨0, by omega, rfl, blk_start w n⟩
  case round =>
    obtain ⟨k, hk, rfl, hb⟩ := hrel
    by_cases hlt : k < n + 1
    · obtain ⟨u, hu⟩ := (hb.head k (by omega)).1
      have hf := (hb.head k (by omega)).2
      have hs := hb.size
      have hlt' : (k : Int) < (n : Int) + 1 := by omega
      have hsz : w.heap.size < wr.heap.size := by omega
      have HB : Hid (Blk w n k wr) := hb
      clear hb hs
      go_wp2
      go_roundw
      case rel => exact ⟨k + 1, by omega, by go_num, blk_step HB.out (by omega)⟩
      case measure => simp [intOf]; omega
    · obtain rfl : k = n + 1 := by omega
      go_wp2
      go_ret
      exact ⟨rfl, ⟨fun i hi => hb.rows i (by omega), fun i j hi hj => hb.cells i j (by omega) hj⟩, hb.below, by rw [hb.size]; omega⟩

set_option maxHeartbeats 1000000 in
theorem empties_walk (n : Nat) (hn : n ≤ 1000) (w : World) :
    Calls Tryz.prog 122 #[.int .i64 n] w fun e w' => e = .returned (tabV w.heap.size n) ∧ Tab w' w.heap.size n (fun i j => decide (i = j)) ∧ Below w.heap.size w w' ∧ w'.heap.size = w.heap.size + 2 + n := by
  go_enter Tryz.func122, Tryz.ntmps122
  go_wp2_with fail
  go_wp2_with (go_at_call 121; refine (blank_walk n hn w).mono ?_; rintro e w1 ⟨rfl, hT, hb, hs⟩)
  have HT : Hid (Tab w1 w.heap.size n (fun _ _ => false)) := hT
  have HB : Hid (Below w.heap.size w w1) := hb
  have HS : Hid (w1.heap.size = w.heap.size + 2 + n) := hs
  clear hT hb hs
  go_loopw [9] (fun i wr => ∃ k : Nat, k ≤ n + 1 ∧ i = .int .i64 k ∧ Tab wr w.heap.size n (fun i j => decide (i = j) && decide (i < k)) ∧ Below w.heap.size w wr ∧ wr.heap.size = w.heap.size + 2 + n) (fun i _ => n + 1 - (intOf i).toNat)
  case atStart => exact ⟨0, by omega, rfl, HT.out.congr (fun i j _ _ => by simp), HB.out, HS.out⟩
  case round =>
    obtain ⟨k, hk, rfl, hT, hb, hs⟩ := hrel
    by_cases hlt : k < n + 1
    · have r0 := hT.rows k (by omega)
      obtain ⟨r1, r2⟩ := hT.cells k k (by omega) (by omega)
      have hlt' : (k : Int) < (n : Int) + 1 := by omega
      have HT : Hid (Tab wr w.heap.size n (fun i j => decide (i = j) && decide (i < k))) := hT
      have HB : Hid (Below w.heap.size w wr) := hb
      have HS : Hid (wr.heap.size = w.heap.size + 2 + n) := hs
      clear hT hb hs
      go_wp2
      go_roundw
      case rel =>
        refine ⟨k + 1, by omega, by go_num, (HT.out.set (i := k) (j := k) (by omega) (by omega) true).congr ?_, HB.out.setCell (by show w.heap.size ≤ w.heap.size + 1 + k; omega) _, by rw [World.size_setCell]; exact HS.out⟩
        intro i j hi hj
        unfold upd
        by_cases e : i = k ∧ j = k
        · simp [e]
        · rw [if_neg e]
          by_cases e2 : i = j
          · subst e2
            have : i ≠ k := fun e3 => e ⟨e3, e3⟩
            simp; omega
          · simp [e2]
      case measure => simp [intOf]; omega
    · obtain rfl : k = n + 1 := by omega
      go_wp2
      go_ret
      exact ⟨rfl, hT.congr (fun i j hi hj => by have : i < n + 1 := by omega
                                                simp [this]), hb, hs⟩
end Go.Proofs.Qxb6500848aGreatDoor
