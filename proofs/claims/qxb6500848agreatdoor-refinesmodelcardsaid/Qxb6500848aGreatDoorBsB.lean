/-
  build, and exactly which old blocks it turns.
-/
import Derived.Test.Qxb6500848aGreatDoorBsA
namespace Go.Proofs.Qxb6500848aGreatDoor
open Go.RowKit Pl Go.Maps
set_option maxRecDepth 100000

structure BTS (T X0 : Nat → Prop) (AA : List Nd) (w : World) (kb eb mb ab : Nat) (regs : List Int) (B0 : Nat) (X1 : Nat → Prop) (w1 : World) (nb1 : Nat) (A1 : List Nd) : Prop extends BT X0 AA w kb eb mb ab regs B0 X1 w1 nb1 A1 where
  ex2 : Ext w.heap.size T w w1
  ta : T ab
  tk : T kb
  tm : T mb
  tn : nb1 < w.heap.size → T nb1
  tr : ∀ rb off n cap, w1.cell? ⟨kb, 2, none⟩ = some (.slice (some ⟨rb, off, none⟩) n cap) → rb < w.heap.size → T rb

/-- What build turns. -/
def Tb (w : World) (kb mb ab nb : Nat) (b : Nat) : Prop := b = ab ∨ b = nb ∨ b = kb ∨ b = mb ∨ ∃ off n cap, w.cell? ⟨kb, 2, none⟩ = some (.slice (some ⟨b, off, none⟩) n cap)

section
variable {T X0 : Nat → Prop} {AA : List Nd} {w : World} {kb eb mb ab : Nat} {regs : List Int} {B0 : Nat} {X1 X' : Nat → Prop} {w1 w2 w3 W : World} {nb1 nb' : Nat} {A1 A' : List Nd} {z : Int}

theorem BTS.start {X : Nat → Prop} {nb : Nat} {A : List Nd} (hM : Mc X w kb eb mb ab nb 65536 A regs) (hX : ∀ z, X z → B0 ≤ z) (hB : B0 ≤ w.heap.size) (o : Obj) :
    BTS (Tb w kb mb ab nb) X A w kb eb mb ab regs B0 (fun b => X b ∨ b = w.heap.size + 1) ((w.alloc o).alloc (.cells #[.bool false, .bool false, .bool false, .bool false, .int .i64 0] 95)) nb A := by
  have hb : Below w.heap.size w ((w.alloc o).alloc (.cells #[.bool false, .bool false, .bool false, .bool false, .int .i64 0] 95)) := (alloc_below _).trans ((alloc_below _).mono (alloc_below _).size)
  refine ⟨BT.start hM hX hB o, Ext.of_below hb _, Or.inl rfl, Or.inr (Or.inr (Or.inl rfl)), Or.inr (Or.inr (Or.inr (Or.inl rfl))), fun _ => Or.inr (Or.inl rfl), fun rb off n cap e _ => Or.inr (Or.inr (Or.inr (Or.inr ⟨off, n, cap, ?_⟩)))⟩
  rw [← hb.cell (p := ⟨kb, 2, none⟩) hM.lk]; exact e

theorem BTS.below' (h : BTS T X0 AA w kb eb mb ab regs B0 X1 w1 nb1 A1) (k : Below w1.heap.size w1 w2) : BTS T X0 AA w kb eb mb ab regs B0 X1 w2 nb1 A1 :=
  ⟨h.toBT.below' k, h.ex2.andThen k h.ex2.size, h.ta, h.tk, h.tm, h.tn, fun rb off n cap e => h.tr rb off n cap ((k.cell (p := ⟨kb, 2, none⟩) h.mc.lk).symm.trans e)⟩
theorem BTS.made (h : BTS T X0 AA w kb eb mb ab regs B0 X1 w1 nb1 A1) (g : Grow X1 W ab nb1 65536 A1 X' w2 nb' A') (hW : Below w1.heap.size w1 W) : BTS T X0 AA w kb eb mb ab regs B0 X' w2 nb' A' := by
  have hS := hW.size
  have h0 := h.ex2.size
  have hW' := h.below' hW
  refine ⟨h.toBT.made g hW, hW'.ex2.trans g.ext hW'.ex2.size (fun i hi q => ?_), h.ta, h.tk, h.tm, fun hn => ?_, fun rb off n cap e => hW'.tr rb off n cap ?_⟩
  · rcases q with q | q
    · rw [q]; exact h.ta
    · rw [q]; exact h.tn (by omega)
  · rcases g.nbs with q | q
    · rw [q] at hn ⊢; exact h.tn hn
    · omega
  · rw [← g.ext.cell (p := ⟨kb, 2, none⟩) hW'.mc.lk (fun q => q.elim h.mc.ka h.mc.kn)]
    exact e
theorem BTS.appended {v' : Value} (h : BTS T X0 AA w kb eb mb ab regs B0 X1 w1 nb1 A1) (hb : Below w1.heap.size w1 w2) {m : Nat} (hm : m = regs.length) (hown : w3.ownsRow w2.heap.size 28 1 v' (m + 1) (regs.map encI ++ [encI z])) (hg : w2.grownBy w3 none) (hz : Sm A1 z) :
    ∃ g cap X', v' = .slice (some ⟨g, 0, none⟩) (m + 1) cap ∧ m + 1 ≤ cap ∧ cap ≤ maxLen ∧ Below w1.heap.size w1 w3 ∧ Hid (BTS T X0 AA w kb eb mb ab (regs ++ [z]) B0 X' (w3.setCell ⟨kb, 2, none⟩ (.slice (some ⟨g, 0, none⟩) (m + 1) cap)) nb1 A1) := by
  obtain ⟨g, cap, X', e, h1, h2, h3, h4⟩ := h.toBT.appended hb hm hown hg hz
  refine ⟨g, cap, X', e, h1, h2, h3, h4.out, (h.ex2.andThen h3 h.ex2.size).setCell (Or.inr h.tk) _, h.ta, h.tk, h.tm, h.tn, fun rb off n cap' q hl => ?_⟩
  exfalso
  have hge : w2.heap.size ≤ g := by
    rcases hown.2 with ⟨_, h0⟩ | ⟨g', cap', cur, e', hg', _⟩
    · omega
    · rw [e] at e'
      simp only [Value.slice.injEq, Option.some.injEq, Addr.mk.injEq] at e'
      omega
  obtain ⟨rv, r1, _⟩ := h.mc.reg
  have k3 : w3.cell? ⟨kb, 2, none⟩ = some rv := (h3.cell (p := ⟨kb, 2, none⟩) h.mc.lk).trans (box_cell r1 2)
  rw [World.cell?_setCell_same _ _ _ k3] at q
  simp only [Option.some.injEq, Value.slice.injEq, Addr.mk.injEq] at q
  have := hb.size
  have := h.ex2.size
  omega
theorem BTS.roomed {rb off cap m : Nat} (h : BTS T X0 AA w kb eb mb ab regs B0 X1 w1 nb1 A1) (hb : Below w1.heap.size w1 w2) (hm : m = regs.length) (hk2 : w1.cell? ⟨kb, 2, none⟩ = some (.slice (some ⟨rb, off, none⟩) m cap)) (hr : Reg X1 w1 kb ab nb1 mb (.slice (some ⟨rb, off, none⟩) m cap) regs) (hroom : m + 1 ≤ cap) (hz : Sm A1 z) :
    Hid (BTS T X0 AA w kb eb mb ab (regs ++ [z]) B0 X1 ((w2.setCell ⟨rb, off + m, none⟩ (encI z)).setCell ⟨kb, 2, none⟩ (.slice (some ⟨rb, off, none⟩) (m + 1) cap)) nb1 A1) := by
  have hn : rb ≠ kb := by
    rcases hr with ⟨e, _⟩ | ⟨rb', off', cap', cells, e, xr, n, _⟩
    · cases e
    · simp only [Value.slice.injEq, Option.some.injEq, Addr.mk.injEq] at e
      obtain ⟨⟨rfl, rfl, _⟩, _, rfl⟩ := e
      exact n.1
  have ht : w.heap.size ≤ rb ∨ T rb := by
    by_cases q : rb < w.heap.size
    · exact Or.inr (h.tr rb off m cap hk2 q)
    · exact Or.inl (by omega)
  refine ⟨(h.toBT.roomed hb hm hk2 hr hroom hz).out, ((h.ex2.andThen hb h.ex2.size).setCell (p := ⟨rb, off + m, none⟩) ht _).setCell (Or.inr h.tk) _, h.ta, h.tk, h.tm, h.tn, fun rb' off' n cap' q hl => ?_⟩
  have k3 : (w2.setCell ⟨rb, off + m, none⟩ (encI z)).cell? ⟨kb, 2, none⟩ = some (.slice (some ⟨rb, off, none⟩) m cap) := by
    rw [World.cell?_setCell_other _ _ _ _ (by intro e; exact hn (congrArg Addr.block e))]
    exact (hb.cell (p := ⟨kb, 2, none⟩) h.mc.lk).trans hk2
  rw [World.cell?_setCell_same _ _ _ k3] at q
  simp only [Option.some.injEq, Value.slice.injEq, Addr.mk.injEq] at q
  obtain ⟨⟨rfl, _⟩, _⟩ := q
  exact h.tr _ off m cap hk2 hl
theorem BTS.forgot {rb off cap m : Nat} (hm : m = regs.length) (h : BTS T X0 AA w kb eb mb ab (regs ++ [z]) B0 X1 (W.setCell ⟨kb, 2, none⟩ (.slice (some ⟨rb, off, none⟩) (m + 1) cap)) nb1 A1) (hn : 0 < m) (hk : ∃ u, W.cell? ⟨kb, 2, none⟩ = some u) :
    Hid (BTS T X0 AA w kb eb mb ab (regs ++ [z]).tail B0 X1 ((W.setCell ⟨kb, 2, none⟩ (.slice (some ⟨rb, off, none⟩) (m + 1) cap)).setCell ⟨kb, 2, none⟩ (.slice (some ⟨rb, off + 1, none⟩) m (cap - 1))) nb1 A1) := by
  refine ⟨(BT.forgot hm h.toBT hn hk).out, h.ex2.setCell (Or.inr h.tk) _, h.ta, h.tk, h.tm, h.tn, fun rb' off' n cap' q hl => ?_⟩
  obtain ⟨u, hu⟩ := hk
  have k3 := World.cell?_setCell_same _ _ (.slice (some ⟨rb, off, none⟩) (m + 1) cap) hu
  rw [World.cell?_setCell_same _ _ _ k3] at q
  simp only [Option.some.injEq, Value.slice.injEq, Addr.mk.injEq] at q
  obtain ⟨⟨rfl, _⟩, _⟩ := q
  exact h.tr _ off (m + 1) cap k3 hl

def BuPost (T : Nat → Prop) (R : List Nd → List Int → Bool → Bool → Prop) (X : Nat → Prop) (A : List Nd) (B0 kb eb mb ab : Nat) (w : World) (e : Ending) (w' : World) : Prop :=
  ∃ X' nb' A' regs' f0 f2, e = .returned (.agg #[.bool f0, .bool false, .bool f2, .bool false, .int .i64 0]) ∧ R A' regs' f0 f2 ∧ Mc X' w' kb eb mb ab nb' 65536 A' regs' ∧ regs'.length ≤ 8 ∧ (∀ z, X' z → B0 ≤ z) ∧ Below B0 w w' ∧ Le A A' ∧ Ext w.heap.size X w w' ∧ (∀ b, b < w.heap.size → (X' b ↔ X b)) ∧ Ext w.heap.size T w w' ∧ (nb' < w.heap.size → T nb') ∧ ∀ rb off n cap, w'.cell? ⟨kb, 2, none⟩ = some (.slice (some ⟨rb, off, none⟩) n cap) → rb < w.heap.size → T rb
theorem BTS.doneS {R : List Nd → List Int → Bool → Bool → Prop} (h : BTS T X0 AA w kb eb mb ab regs B0 X1 w1 nb1 A1) (hl : regs.length ≤ 8) (f0 f2 : Bool) (hR : R A1 regs f0 f2) :
    BuPost T R X0 AA B0 kb eb mb ab w (.returned (.agg #[.bool f0, .bool false, .bool f2, .bool false, .int .i64 0])) (five w1 (w.heap.size + 1) (.bool f0) (.bool false) (.bool f2) (.bool false) (.int .i64 0)) ∧ (five w1 (w.heap.size + 1) (.bool f0) (.bool false) (.bool f2) (.bool false) (.int .i64 0)).heap[w.heap.size + 1]? = some (.cells #[.bool f0, .bool false, .bool f2, .bool false, .int .i64 0] 95 (0, 0)) := by
  obtain ⟨p0, p1, p2, p3, p4, hr⟩ := h.res
  have e := five_ext w1 (w.heap.size + 1) (.bool f0) (.bool false) (.bool f2) (.bool false) (.int .i64 0)
  have ge := h.ge
  have lt := h.lt
  exact ⟨⟨X1, nb1, A1, regs, f0, f2, rfl, hR, h.mc.other h.sp h.xres e, hl, h.lo, h.bel.trans (e.below' (by omega) (fun k hk q => by omega)), h.le, h.ext.trans e h.ext.size (fun i hi q => by omega), h.sub, h.ex2.trans e h.ex2.size (fun i hi q => by omega), h.tn, fun rb off n cap f => h.tr rb off n cap ((e.cell (p := ⟨kb, 2, none⟩) h.mc.lk (fun q => h.sp.dk q.symm)).symm.trans f)⟩, five_heap hr _ _ _ _ _⟩
end
end Go.Proofs.Qxb6500848aGreatDoor
