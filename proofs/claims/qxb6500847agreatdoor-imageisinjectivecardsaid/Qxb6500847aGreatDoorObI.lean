/-
  observe: what lies in memory while the state is read.
-/
import Derived.Test.Qxb6500847aGreatDoorSpA
import Derived.Test.Qxb6500847aGreatDoorObC
import Derived.Test.Qxb6500847aGreatDoorObE
import Derived.Test.Qxb6500847aGreatDoorDfB
namespace Go.Proofs.Qxb6500847aGreatDoor.Os
open Go.RowKit FloorA
set_option maxRecDepth 100000
/-- The model in block B shows M; the list in block Lb's cell. -/
def Obs (w : World) (B Lb : Nat) (M : Nat → En) (l : List (Nat × Int)) (wr : World) : Prop := ∃ D v, Sep w.heap.size D wr ∧ MoL D 0 B M wr ∧ D 1 Lb ∧ wr.heap[Lb]? = some (.cells #[v] 55 (0, 0)) ∧ ROwn w.heap.size wr v l ∧ (∀ b, v.ownBlock = some b → D 2 b) ∧ Below w.heap.size w wr
section
variable {w wr wr' : World} {B Lb i : Nat} {M : Nat → En} {l : List (Nat × Int)}
theorem Obs.bel (h : Obs w B Lb M l wr) : Below w.heap.size w wr := by
  obtain ⟨D, v, _, _, _, _, _, _, hb⟩ := h
  exact hb
theorem Obs.below (h : Obs w B Lb M l wr) (k : Below wr.heap.size wr wr') : Obs w B Lb M l wr' := by
  obtain ⟨D, v, hS, hm, h1, h2, h3, h4, hb⟩ := h
  exact ⟨D, v, hS.same k.size, hm.below k, h1, (k.block _ (heap_lt h2)).trans h2, h3.below k, h4, hb.trans (k.mono hb.size)⟩
theorem Obs.cells (h : Obs w B Lb M l wr) : ∃ a c, wr.cell? ⟨Lb, 0, none⟩ = some (.slice a l.length c) ∧ wr.frozen? ⟨Lb, 0, none⟩ = false ∧ ROwn w.heap.size wr (.slice a l.length c) l ∧ Lb ≠ B ∧ w.heap.size ≤ Lb ∧ Lb < wr.heap.size := by
  obtain ⟨D, v, hS, ⟨wb, hm, hd⟩, h1, h2, h3, h4, hb⟩ := h
  obtain ⟨a, c, e⟩ := own_formD h3
  subst e
  exact ⟨a, c, cell_of_one h2, fz_d h2 0, h3, fun e => by have := hS.di 1 0 Lb h1 (hd Lb (Or.inl e)); omega, (hS.lo 1 Lb h1).1, (hS.lo 1 Lb h1).2⟩
theorem Obs.md (h : Obs w B Lb M l wr) : ∃ wb, Md wr B wb M := by
  obtain ⟨D, v, hS, ⟨wb, hm, hd⟩, _⟩ := h
  exact ⟨wb, hm⟩
theorem Obs.lB (h : Obs w B Lb M l wr) : w.heap.size ≤ B := by
  obtain ⟨D, v, hS, ⟨wb, hm, hd⟩, _⟩ := h
  exact (hS.lo 0 B (hd B (Or.inl rfl))).1
theorem set_ext (wr : World) (B o : Nat) (x : Value) : Ext wr.heap.size (fun b => b = B) wr (wr.setCell ⟨B, o, none⟩ x) := (Ext.refl wr.heap.size (fun b => b = B) wr).setCell (p := ⟨B, o, none⟩) (Or.inr rfl) x
/-- A field of the model is written. -/
theorem Obs.fld (h : Obs w B Lb M l wr) (hi : i < 320) (j : Nat) (hj : j < 5) (e : En) (hw : e.wds = (M i).wds) {x : Value} (hx : (entL e)[j]? = some x) (ho : ∀ k, k ≠ j → (entL e)[k]? = (entL (M i))[k]?) : Obs w B Lb (updM M i e) l (wr.setCell ⟨B, i * 6 + j, none⟩ x) := by
  obtain ⟨D, v, hS, ⟨wb, hm, hd⟩, h1, h2, h3, h4, hb⟩ := h
  have hB := hd B (Or.inl rfl)
  have e1 := set_ext wr B (i * 6 + j) x
  have nB : ∀ {b}, D 1 b ∨ D 2 b → b ≠ B := fun {b} q z => by
    subst z
    rcases q with q | q
    · have := hS.di 1 0 _ q hB; omega
    · have := hS.di 2 0 _ q hB; omega
  refine ⟨D, v, hS.same e1.size, ⟨wb, hm.fld hi j hj e hw hx ho, fun b q => hd b ?_⟩, h1, (e1.block _ (heap_lt h2) (nB (Or.inl h1))).trans h2, owns_keep h3 (fun q hq => e1.block q (owns_lt h3 q hq).2 (nB (Or.inr (h4 q hq)))), h4, hb.trans (e1.below' hb.size (fun b hb' q => by have := (hS.lo 0 B hB).1; omega))⟩
  rcases q with q | ⟨a, ha, hwa, rfl⟩
  · exact Or.inl q
  · refine Or.inr ⟨a, ha, ?_, rfl⟩
    by_cases z : a = i
    · rw [z, updO_same, hw] at hwa
      rw [z]; exact hwa
    · rw [updO_other _ _ z] at hwa
      exact hwa
/-- The words are written. -/
theorem Obs.wset (h : Obs w B Lb M l wr) (k : Below wr.heap.size wr wr') (hi : i < 320) {xs : List Int} {g : Nat} {u : Value} (hv : WdV wr' g xs u) (hg : xs ≠ [] → wr.heap.size ≤ g ∧ g < wr'.heap.size) : Obs w B Lb (updM M i { M i with wds := xs }) l (wr'.setCell ⟨B, i * 6 + 5, none⟩ u) := by
  obtain ⟨D, v, hS, ⟨wb, hm, hd⟩, h1, h2, h3, h4, hb⟩ := h
  have hB := hd B (Or.inl rfl)
  have hBl := (hS.lo 0 B hB).2
  have e1 := set_ext wr' B (i * 6 + 5) u
  have sz : (wr'.setCell ⟨B, i * 6 + 5, none⟩ u).heap.size = wr'.heap.size := by simp
  have nB : ∀ {b}, D 1 b ∨ D 2 b → b ≠ B := fun {b} q z => by
    subst z
    rcases q with q | q
    · have := hS.di 1 0 _ q hB; omega
    · have := hS.di 2 0 _ q hB; omega
  refine ⟨grD D 0 wr wr', v, (hS.grow k.size hb.size 0).same (Nat.le_of_eq sz.symm), ⟨_, (hm.below k).wset hi hv (fun q => ⟨by have := (hg q).1; omega, fun j hj _ hw z => by have := (hg q).1; have := hm.wlt hj hw; omega⟩), fun b q => ?_⟩, Or.inl h1, (e1.block _ (Nat.lt_of_lt_of_le (heap_lt h2) k.size) (nB (Or.inl h1))).trans ((k.block _ (heap_lt h2)).trans h2), owns_keep (h3.below k) (fun q hq => e1.block q (owns_lt (h3.below k) q hq).2 (nB (Or.inr (h4 q hq)))), fun b hb' => Or.inl (h4 b hb'), (hb.trans (k.mono hb.size)).trans (e1.below' (Nat.le_trans hb.size k.size) (fun b hb' q => by have := (hS.lo 0 B hB).1; omega))⟩
  rcases q with rfl | ⟨a, ha, hwa, rfl⟩
  · exact Or.inl hB
  · by_cases z : a = i
    · subst z
      rw [updO_same] at hwa
      show grD D 0 wr wr' 0 (if a = a then g else wb a)
      rw [if_pos rfl]
      exact Or.inr ⟨rfl, hg hwa⟩
    · rw [updO_other _ _ z] at hwa
      show grD D 0 wr wr' 0 (if a = i then g else wb a)
      rw [if_neg z]
      exact Or.inl (hd _ (Or.inr ⟨a, ha, hwa, rfl⟩))
/-- A reference is listed. -/
theorem Obs.push (h : Obs w B Lb M l wr) {a : Option Addr} {c : Nat} (hc : wr.cell? ⟨Lb, 0, none⟩ = some (.slice a l.length c)) {r : Nat × Int} {o : Obj} {v' : Value} {w8 : World} (ho : w8.ownsRow w.heap.size 32 2 v' (l.length + 1) (refL l ++ [.int .u16 (r.1 : Int), .int .u32 r.2])) (hg : (wr.alloc o).grownBy w8 (Value.slice a l.length c).ownBlock) (hh : v'.ownBlock = (Value.slice a l.length c).ownBlock ∨ v'.ownBlock = some (wr.alloc o).heap.size) : Obs w B Lb M (l ++ [r]) (w8.setCell ⟨Lb, 0, none⟩ v') := by
  obtain ⟨D, v, hS, ⟨wb, hm, hd⟩, h1, h2, h3, h4, hb⟩ := h
  have hcv := cell_of_one h2
  rw [hc] at hcv
  obtain rfl := Option.some.inj hcv
  have hs : (wr.alloc o).heap.size = wr.heap.size + 1 := by simp
  have s8 := hg.size
  have e8 : Ext wr.heap.size (D 2) wr w8 := ⟨hg.os, hg.tape, hg.output, by omega, fun q hq hn => (hg.block q (by omega) (fun e => hn (h4 q e.symm))).trans (heap_alloc_old _ _ hq)⟩
  have n12 : ¬ D 2 Lb := fun q => by have := hS.di 1 2 Lb h1 q; omega
  have h28 := (e8.block _ (heap_lt h2) n12).trans h2
  have e9 := set_ext w8 Lb 0 v'
  have sz : (w8.setCell ⟨Lb, 0, none⟩ v').heap.size = w8.heap.size := by simp
  have hl := (hS.lo 1 Lb h1)
  have own' : ∀ b, v'.ownBlock = some b → grD D 2 wr w8 2 b := fun b q => by
    have := (owns_lt ho b q).2
    rcases hh with z | z
    · exact Or.inl (h4 b (z ▸ q))
    · rw [z] at q
      have := Option.some.inj q
      exact Or.inr ⟨rfl, by omega, by omega⟩
  have ne' : ∀ b, v'.ownBlock = some b → b ≠ Lb := fun b q z => by
    subst z
    rcases own' _ q with z | ⟨_, z, _⟩
    · exact n12 z
    · omega
  refine ⟨grD D 2 wr w8, v', (hS.grow (by omega) hb.size 2).same (Nat.le_of_eq sz.symm), ⟨wb, (hm.ext e8 (fun b hb' q => by have := hS.di 2 0 b q (hd b hb'); omega)).ext e9 (fun b hb' q => by subst q; have := hS.di 1 0 _ h1 (hd _ hb'); omega), fun b q => Or.inl (hd b q)⟩, Or.inl h1, ?_, ?_, own', (hb.trans (e8.below' hb.size (fun b hb' q => by have := (hS.lo 2 b q).1; omega))).trans (e9.below' (by have := hb.size; omega) (fun b hb' q => by omega))⟩
  · rw [heap_setCell_same w8 Lb 0 _ 55 v' h28]
    rfl
  · unfold ROwn
    rw [refL_one, List.length_append]
    exact owns_keep ho (fun q hq => e9.block q (owns_lt ho q hq).2 (fun z => ne' q hq z))
end
end Go.Proofs.Qxb6500847aGreatDoor.Os
