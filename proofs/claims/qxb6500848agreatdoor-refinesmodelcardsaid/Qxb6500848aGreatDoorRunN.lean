/-
  A new machine with all its tables.
-/
import Derived.Test.Qxb6500848aGreatDoorRunA
import Derived.Test.Qxb6500848aGreatDoorAux
namespace Go.Proofs.Qxb6500848aGreatDoor
open Go.RowKit Pl Go.Maps
set_option maxRecDepth 100000

/-- A new machine; the engine's other tables are empty. -/
theorem mc_new2 {w : World} (hg : Ge w) (lim : Int) : ∃ X nb, Mc X ((ew (nw w lim) (w.heap.size + 1)).alloc (.cells #[.pointer (some ⟨w.heap.size + 1, 0, none⟩), .pointer (some ⟨(nw w lim).heap.size + 4, 0, none⟩), .slice none 0 0] 39)) (ew (nw w lim) (w.heap.size + 1)).heap.size ((nw w lim).heap.size + 4) (nw w lim).heap.size (w.heap.size + 1) nb lim A0 [] ∧ Ax X ((ew (nw w lim) (w.heap.size + 1)).alloc (.cells #[.pointer (some ⟨w.heap.size + 1, 0, none⟩), .pointer (some ⟨(nw w lim).heap.size + 4, 0, none⟩), .slice none 0 0] 39)) ((nw w lim).heap.size + 4) (nw w lim).heap.size A0 ∧ (∀ z, X z → w.heap.size ≤ z) := by
  have hE := en_new (st_new hg lim)
  have s1 : ∀ (W : World) (o : Obj), (W.alloc o).heap.size = W.heap.size + 1 := Deep.nblk_alloc
  have sn : (nw w lim).heap.size = w.heap.size + 1 + 1 := by unfold nw; rw [s1, s1]
  have se : (ew (nw w lim) (w.heap.size + 1)).heap.size = w.heap.size + 7 := by unfold ew ewb; rw [s1, s1, s1, s1, s1, sn]
  have hB := alloc_below (w := ew (nw w lim) (w.heap.size + 1)) (.cells #[.pointer (some ⟨w.heap.size + 1, 0, none⟩), .pointer (some ⟨(nw w lim).heap.size + 4, 0, none⟩), .slice none 0 0] 39)
  refine ⟨fun b => ((b = w.heap.size + 1 ∨ b = w.heap.size) ∨ b = (nw w lim).heap.size) ∨ b = (ew (nw w lim) (w.heap.size + 1)).heap.size, w.heap.size, ⟨?_, Or.inr rfl, by omega, by omega, by omega, ⟨_, heap_new _ _, Or.inl ⟨rfl, rfl⟩⟩, fun r hr => absurd hr (by simp)⟩, ?_, fun z hz => by omega⟩
  · have h1 := hE.below hB (Nat.le_refl _)
    have hm : ∀ b, b < (ew (nw w lim) (w.heap.size + 1)).heap.size → (((b = w.heap.size + 1 ∨ b = w.heap.size) ∨ b = (nw w lim).heap.size) ∨ b = (ew (nw w lim) (w.heap.size + 1)).heap.size) → ((b = w.heap.size + 1 ∨ b = w.heap.size) ∨ b = (nw w lim).heap.size) := fun b hb h => h.elim id (fun e => by omega)
    refine ⟨⟨(hE.st.ar.more (fun b hb => Or.inl hb) hm).below hB (Nat.le_refl _), fun z hz => ?_⟩, h1.eng, fun e => by omega, Or.inl hE.xm, hE.ma, hE.mn, h1.memo⟩
    rw [s1]
    omega
  · generalize nw w lim = v at *
    have hn : ∀ i, 1 ≤ i → i ≤ 3 → ¬ (((v.heap.size + i = w.heap.size + 1 ∨ v.heap.size + i = w.heap.size) ∨ v.heap.size + i = v.heap.size) ∨ v.heap.size + i = (ew v (w.heap.size + 1)).heap.size) := fun i h1 h2 => by omega
    have mk1 : ∀ {K : TypeId} {W : World} {b : Nat} {o : Obj}, Mp K W b (fun _ => .nilFunc) [] → Mp K (W.alloc o) b (fun _ => .nilFunc) [] := fun {K W b o} m => m.ext (Ext.of_below (alloc_below o) (fun _ => False)) m.lt id
    have md : ∀ (K : TypeId) (W : World) (n : Nat), W.heap.size = n → Mp K (W.alloc (.map #[] 0)) n (fun _ => .nilFunc) [] := fun K W n e => by subst e; exact Mp.made K W _
    refine ⟨⟨_, _, _, (Deep.blk_alloc_lt _ _ _ (by omega)).trans (new_at _ _ (by rw [s1, s1, s1, s1]))⟩, hn 1 (by omega) (by omega), hn 2 (by omega) (by omega), hn 3 (by omega) (by omega), ⟨fun _ => .nilFunc, [], ?_, fun k hk => absurd hk (by simp)⟩, ⟨fun _ => .nilFunc, [], ?_, fun k hk => absurd hk (by simp)⟩, ⟨fun _ => .nilFunc, [], ?_, fun k hk => absurd hk (by simp)⟩⟩
    · exact mk1 (mk1 (mk1 (md _ _ _ (by rw [s1, s1]))))
    · exact mk1 (mk1 (mk1 (mk1 (md _ _ _ (by rw [s1])))))
    · exact mk1 (mk1 (md _ _ _ (by rw [s1, s1, s1])))

/-- The machine at the head of a round. -/
def SL (w : World) (kb eb mb ab : Nat) (wr : World) : Prop :=
  ∃ X nb A regs, Mc X wr kb eb mb ab nb 65536 A regs ∧ Ax X wr eb mb A ∧ regs.length ≤ 8 ∧ (∀ z, X z → w.heap.size ≤ z) ∧ Below w.heap.size w wr

theorem Ints.of_script {w W : World} {X : Nat → Prop} {v : Value} {l : List Int} (h : Ints (fun _ => False) w v l) (hb : Below w.heap.size w W) (hX : ∀ z, X z → w.heap.size ≤ z) : Ints X W v l := by
  obtain ⟨ad, cap, rfl, h1, h2, h3⟩ := h
  refine ⟨ad, cap, rfl, h1, h2, fun hl => ?_⟩
  obtain ⟨g, o, rfl, hx, hc⟩ := h3 hl
  have hp : 0 < l.length := List.length_pos_iff.2 hl
  have lg : g < w.heap.size := cell_lt (hc 0 hp)
  exact ⟨g, o, rfl, fun e => by have := hX g e; omega, fun j hj => (hb.cell (p := ⟨g, o + j, none⟩) lg).trans (hc j hj)⟩

end Go.Proofs.Qxb6500848aGreatDoor
