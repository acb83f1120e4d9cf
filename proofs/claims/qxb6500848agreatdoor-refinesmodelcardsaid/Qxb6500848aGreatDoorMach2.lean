/-
  The machine in memory.
-/
import Derived.Test.Qxb6500848aGreatDoorMach
import Derived.Deep.RegionHeld3
namespace Go.Proofs.Qxb6500848aGreatDoor
open Go.RowKit Pl Go.Maps
set_option maxRecDepth 100000

/-- The registers behind rv. -/
def Reg (X : Nat → Prop) (w : World) (kb ab nb mb : Nat) (rv : Value) (regs : List Int) : Prop :=
  (rv = .slice none 0 0 ∧ regs = []) ∨ ∃ rb off cap cells, rv = .slice (some ⟨rb, off, none⟩) regs.length cap ∧ X rb ∧ (rb ≠ kb ∧ rb ≠ ab ∧ rb ≠ nb ∧ rb ≠ mb) ∧ w.heap[rb]? = some (.cells cells 28 (0, 0)) ∧ off + cap ≤ cells.size ∧ regs.length ≤ cap ∧ cap ≤ maxLen ∧
    ∀ j (h : j < regs.length), cells[off + j]? = some (encI regs[j])

structure Mc (X : Nat → Prop) (w : World) (kb eb mb ab nb : Nat) (lim : Int) (A : List Nd) (regs : List Int) : Prop where
  en : En X w eb mb ab nb lim A
  xk : X kb
  ka : kb ≠ ab
  kn : kb ≠ nb
  km : kb ≠ mb
  reg : ∃ rv, w.heap[kb]? = some (.cells #[.pointer (some ⟨ab, 0, none⟩), .pointer (some ⟨eb, 0, none⟩), rv] 39 (0, 0)) ∧ Reg X w kb ab nb mb rv regs
  val : ∀ r ∈ regs, Sm A r

theorem Mc.lk {X : Nat → Prop} {w : World} {kb eb mb ab nb : Nat} {lim : Int} {A : List Nd} {regs : List Int} (h : Mc X w kb eb mb ab nb lim A regs) : kb < w.heap.size := h.en.st.xlt kb h.xk

theorem Mc.grow {X X' : Nat → Prop} {w w' : World} {kb eb mb ab nb nb' : Nat} {lim : Int} {A A' : List Nd} {regs : List Int} (h : Mc X w kb eb mb ab nb lim A regs) (g : GrE X w eb mb ab nb lim A X' w' nb' A') : Mc X' w' kb eb mb ab nb' lim A' regs := by
  have lk := h.lk
  refine ⟨g.en, (g.sub kb lk).2 h.xk, h.ka, ?_, h.km, ?_, fun r hr => (h.val r hr).le h.en.st.ar.wf g.en.st.ar.wf g.le⟩
  · rcases g.nbs with e | e
    · rw [e]; exact h.kn
    · omega
  · obtain ⟨rv, h1, h2⟩ := h.reg
    refine ⟨rv, (g.ext.block kb lk (fun e => by
      rcases e with e | e | e
      · exact h.ka e
      · exact h.kn e
      · exact h.km e)).trans h1, ?_⟩
    rcases h2 with h2 | ⟨rb, off, cap, cells, e, xr, ⟨n1, n2, n3, n4⟩, hh, r1, r2, r3, r4⟩
    · exact Or.inl h2
    · have lr := heap_lt hh
      refine Or.inr ⟨rb, off, cap, cells, e, (g.sub rb lr).2 xr, ⟨n1, n2, ?_, n4⟩, (g.ext.block rb lr (fun e => by
        rcases e with e | e | e
        · exact n2 e
        · exact n3 e
        · exact n4 e)).trans hh, r1, r2, r3, r4⟩
      rcases g.nbs with e | e
      · rw [e]; exact n3
      · omega

theorem Mc.below {X : Nat → Prop} {w w' : World} {kb eb mb ab nb : Nat} {lim : Int} {A : List Nd} {regs : List Int} (h : Mc X w kb eb mb ab nb lim A regs) (k : Below w.heap.size w w') : Mc X w' kb eb mb ab nb lim A regs :=
  h.grow ((GrE.refl h.en).below k (Nat.le_refl _))

theorem Mc.cells {X : Nat → Prop} {w : World} {kb eb mb ab nb : Nat} {lim : Int} {A : List Nd} {regs : List Int} (h : Mc X w kb eb mb ab nb lim A regs) :
    ∃ rv, w.cell? ⟨kb, 0, none⟩ = some (.pointer (some ⟨ab, 0, none⟩)) ∧ w.cell? ⟨kb, 1, none⟩ = some (.pointer (some ⟨eb, 0, none⟩)) ∧ w.cell? ⟨kb, 2, none⟩ = some rv ∧ Reg X w kb ab nb mb rv regs := by
  obtain ⟨rv, h1, h2⟩ := h.reg
  exact ⟨rv, box_cell h1 0, box_cell h1 1, box_cell h1 2, h2⟩

theorem mc_new {w : World} (hg : Ge w) (lim : Int) : ∃ X nb, Mc X ((ew (nw w lim) (w.heap.size + 1)).alloc (.cells #[.pointer (some ⟨w.heap.size + 1, 0, none⟩), .pointer (some ⟨(nw w lim).heap.size + 4, 0, none⟩), .slice none 0 0] 39)) (ew (nw w lim) (w.heap.size + 1)).heap.size ((nw w lim).heap.size + 4) (nw w lim).heap.size (w.heap.size + 1) nb lim A0 [] ∧ (∀ z, X z → w.heap.size ≤ z) := by
  have hE := en_new (st_new hg lim)
  have s1 : ∀ (W : World) (o : Obj), (W.alloc o).heap.size = W.heap.size + 1 := Deep.nblk_alloc
  have sn : (nw w lim).heap.size = w.heap.size + 1 + 1 := by unfold nw; rw [s1, s1]
  have se : (ew (nw w lim) (w.heap.size + 1)).heap.size = w.heap.size + 7 := by unfold ew ewb; rw [s1, s1, s1, s1, s1, sn]
  have hB := alloc_below (w := ew (nw w lim) (w.heap.size + 1)) (.cells #[.pointer (some ⟨w.heap.size + 1, 0, none⟩), .pointer (some ⟨(nw w lim).heap.size + 4, 0, none⟩), .slice none 0 0] 39)
  refine ⟨fun b => ((b = w.heap.size + 1 ∨ b = w.heap.size) ∨ b = (nw w lim).heap.size) ∨ b = (ew (nw w lim) (w.heap.size + 1)).heap.size, w.heap.size, ⟨?_, Or.inr rfl, by omega, by omega, by omega, ⟨_, heap_new _ _, Or.inl ⟨rfl, rfl⟩⟩, fun r hr => absurd hr (by simp)⟩, fun z hz => by omega⟩
  have h1 := hE.below hB (Nat.le_refl _)
  have hm : ∀ b, b < (ew (nw w lim) (w.heap.size + 1)).heap.size → (((b = w.heap.size + 1 ∨ b = w.heap.size) ∨ b = (nw w lim).heap.size) ∨ b = (ew (nw w lim) (w.heap.size + 1)).heap.size) → ((b = w.heap.size + 1 ∨ b = w.heap.size) ∨ b = (nw w lim).heap.size) := fun b hb h => h.elim id (fun e => by omega)
  refine ⟨⟨(hE.st.ar.more (fun b hb => Or.inl hb) hm).below hB (Nat.le_refl _), fun z hz => ?_⟩, h1.eng, fun e => by omega, Or.inl hE.xm, hE.ma, hE.mn, h1.memo⟩
  rw [s1]
  omega
end Go.Proofs.Qxb6500848aGreatDoor
