/-
  The model's machine in memory.
-/
import Derived.Test.Qxb6500848aGreatDoorBsB
namespace Go.Proofs.Qxb6500848aGreatDoor
open Go.RowKit Pl Go.Maps
set_option maxRecDepth 100000

structure Mo (Y : Nat → Prop) (w : World) (hb ab nb : Nat) (B : List Nd) (regs : List Int) : Prop where
  st : St Y w ab nb 65536 B
  xh : Y hb
  ha : hb ≠ ab
  hn : hb ≠ nb
  reg : ∃ rv, w.heap[hb]? = some (.cells #[.pointer (some ⟨ab, 0, none⟩), rv] 141 (0, 0)) ∧ Reg Y w hb ab nb hb rv regs
  val : ∀ r ∈ regs, Sm B r

def Plus' (X : Nat → Prop) (m : Nat) : Nat → Prop := fun b => X b ∨ b = m
/-- What keep turns. -/
def Th (w : World) (hb : Nat) (b : Nat) : Prop := b = hb ∨ ∃ off n cap, w.cell? ⟨hb, 1, none⟩ = some (.slice (some ⟨b, off, none⟩) n cap)

section
variable {Y Y' : Nat → Prop} {w w' w1 w2 : World} {hb ab nb nb' D : Nat} {B B' : List Nd} {regs regs' : List Int} {z : Int}

theorem Mo.lh (h : Mo Y w hb ab nb B regs) : hb < w.heap.size := h.st.xlt hb h.xh
theorem Mo.cells (h : Mo Y w hb ab nb B regs) : ∃ rv, w.cell? ⟨hb, 0, none⟩ = some (.pointer (some ⟨ab, 0, none⟩)) ∧ w.cell? ⟨hb, 1, none⟩ = some rv ∧ Reg Y w hb ab nb hb rv regs := by
  obtain ⟨rv, h1, h2⟩ := h.reg
  exact ⟨rv, box_cell h1 0, box_cell h1 1, h2⟩
theorem Reg.keep {X X' : Nat → Prop} {w w' : World} {kb ab nb nb' mb : Nat} {rv : Value} {regs : List Int} (h : Reg X w kb ab nb mb rv regs) {T : Nat → Prop} (e : Ext w.heap.size T w w') (hT : ∀ rb off n cap, rv = .slice (some ⟨rb, off, none⟩) n cap → ¬ T rb) (sub : ∀ b, b < w.heap.size → X b → X' b) (hn : ∀ b, b < w.heap.size → b ≠ nb → b ≠ nb') : Reg X' w' kb ab nb' mb rv regs := by
  rcases h with h | ⟨rb, off, cap, cells, e1, xr, ⟨n1, n2, n3, n4⟩, hh, r⟩
  · exact Or.inl h
  · have l := heap_lt hh
    exact Or.inr ⟨rb, off, cap, cells, e1, sub rb l xr, ⟨n1, n2, hn rb l n3, n4⟩, (e.block rb l (hT rb off _ cap e1)).trans hh, r⟩
/-- Blocks elsewhere turn; new ones are one's own. -/
theorem Mo.keepT {T : Nat → Prop} (h : Mo Y w hb ab nb B regs) (e : Ext w.heap.size T w w') (hT : ∀ b, b < w.heap.size → T b → Y b ∧ b ≠ ab ∧ b ≠ nb ∧ b ≠ hb ∧ ∀ off n cap, w.cell? ⟨hb, 1, none⟩ ≠ some (.slice (some ⟨b, off, none⟩) n cap)) (sub : ∀ b, b < w.heap.size → (Y' b ↔ Y b)) (hl : ∀ b, Y' b → b < w'.heap.size) : Mo Y' w' hb ab nb B regs := by
  have lh := h.lh
  obtain ⟨rv, h1, h2⟩ := h.reg
  have hA : Ar Y w' ab nb 65536 B := h.st.ar.keep e (Nat.le_refl _) (fun b hb y => ⟨(hT b hb y).1, (hT b hb y).2.1, (hT b hb y).2.2.1⟩)
  have la := h.st.xlt _ h.st.ar.xa
  have ln := h.st.xlt _ h.st.ar.xn
  obtain ⟨cap, S, q1, q2, q3, q5⟩ := hA.ex
  obtain ⟨e1, t, v, e2⟩ := h.st.ar.er
  have hsq : ∀ {α : Type} {enc : α → Value} {v : Value} {l : List α}, Seq enc Y w v l → Seq enc Y' w' v l := fun {α enc v l} s => by
    obtain ⟨ad, cap, rfl, p1, p2, p3⟩ := s
    refine ⟨ad, cap, rfl, p1, p2, fun hl => ?_⟩
    obtain ⟨g, o, rfl, hx, hc⟩ := p3 hl
    have lg : g < w.heap.size := cell_lt (hc 0 (List.length_pos_iff.2 hl))
    exact ⟨g, o, rfl, fun x => hx ((sub g lg).1 x), fun j hj => (e.cell (p := ⟨g, o + j, none⟩) lg (fun y => hx (hT g lg y).1)).trans (hc j hj)⟩
  have l1 := cell_lt e2
  refine ⟨⟨?_, hl⟩, (sub hb lh).2 h.xh, h.ha, h.hn, ⟨rv, (e.block hb lh (fun y => (hT hb lh y).2.2.2.1 rfl)).trans h1, h2.keep e (fun rb off n cap e3 y => ?_) (fun b hb x => (sub b hb).2 x) (fun b _ q => q)⟩, h.val⟩
  · obtain ⟨cap0, S0, z1, z2, ⟨z3, z4⟩, z5⟩ := h.st.ar.ex
    refine ⟨h.st.ar.wf, h.st.ar.len, (sub ab la).2 h.st.ar.xa, (sub nb ln).2 h.st.ar.xn, h.st.ar.ne, ⟨fun x => e1 ((sub _ l1).1 x), t, v, (e.cell (p := ⟨2, 0, none⟩) l1 (fun y => e1 (hT _ l1 y).1)).trans e2⟩, cap0, S0, (e.block ab la (fun y => (hT ab la y).2.1 rfl)).trans z1, z2, ⟨z3, ?_⟩, fun i hi hi' => ⟨hsq (z5 i hi hi').1, hsq (z5 i hi hi').2⟩⟩
    rcases z4 with z4 | ⟨g, cap', cur, q, hb', hh, r⟩
    · exact Or.inl z4
    · refine Or.inr ⟨g, cap', cur, q, hb', ?_, r⟩
      have eg : g = nb := by simp only [Value.slice.injEq, Option.some.injEq, Addr.mk.injEq] at q; exact q.1.1.symm
      subst eg
      exact (e.block g ln (fun y => (hT g ln y).2.2.1 rfl)).trans hh
  · have lr : rb < w.heap.size := by
      rcases h2 with ⟨q, _⟩ | ⟨rb', off', cap', cells, q, xr, _, hh, _⟩
      · rw [q] at e3; cases e3
      · rw [q] at e3
        simp only [Value.slice.injEq, Option.some.injEq, Addr.mk.injEq] at e3
        have := heap_lt hh
        omega
    exact (hT rb lr y).2.2.2.2 off n cap (by rw [box_cell h1 1, e3]; rfl)
theorem Mo.below (h : Mo Y w hb ab nb B regs) (k : Below w.heap.size w w') : Mo Y w' hb ab nb B regs :=
  h.keepT (Ext.of_below k (fun _ => False)) (fun _ _ q => q.elim) (fun _ _ => Iff.rfl) (fun b hb => Nat.lt_of_lt_of_le (h.st.xlt b hb) k.size)
/-- A constructor of its own arena. -/
theorem Mo.grow (h : Mo Y w hb ab nb B regs) (g : Grow Y w ab nb 65536 B Y' w' nb' B') : Mo Y' w' hb ab nb' B' regs := by
  obtain ⟨rv, h1, h2⟩ := h.reg
  have lh := h.lh
  have far : ¬ (hb = ab ∨ hb = nb) := fun q => q.elim h.ha h.hn
  have nn : ∀ b, b < w.heap.size → b ≠ nb → b ≠ nb' := fun b hl q => by
    rcases g.nbs with e | e
    · rw [e]; exact q
    · omega
  refine ⟨g.st, (g.sub hb lh).2 h.xh, h.ha, nn hb lh h.hn, ⟨rv, (g.ext.block hb lh far).trans h1, h2.keep g.ext (fun rb off n cap e q => ?_) (fun b hl x => (g.sub b hl).2 x) nn⟩, fun r hr => (h.val r hr).le h.st.ar.wf g.st.ar.wf g.le⟩
  rcases h2 with ⟨p, _⟩ | ⟨rb', off', cap', cells, p, xr, ⟨n1, n2, n3, n4⟩, _⟩
  · rw [p] at e; cases e
  · rw [p] at e
    simp only [Value.slice.injEq, Option.some.injEq, Addr.mk.injEq] at e
    obtain ⟨⟨rfl, _⟩, _⟩ := e
    exact q.elim n2 n3

/-- The store of the registers' slice. -/
theorem mo_store (hS : St Y w ab nb 65536 B) (xh : Y hb) (ha : hb ≠ ab) (hn : hb ≠ nb) (hk : ∃ rv0, w.heap[hb]? = some (.cells #[.pointer (some ⟨ab, 0, none⟩), rv0] 141 (0, 0)))
    {rv : Value} (hr : Reg Y w hb ab nb hb rv regs') (hv : ∀ r ∈ regs', Sm B r) : Mo Y (w.setCell ⟨hb, 1, none⟩ rv) hb ab nb B regs' := by
  have e : Ext w.heap.size (fun b => b = hb) w (w.setCell ⟨hb, 1, none⟩ rv) := Ext.setCell (X := fun b => b = hb) (p := ⟨hb, 1, none⟩) (Ext.refl _ _ _) (Or.inr rfl) rv
  refine ⟨⟨hS.ar.keep e (Nat.le_refl _) (fun b _ y => ⟨by rw [show b = hb from y]; exact xh, fun q => ha (y.symm.trans q), fun q => hn (y.symm.trans q)⟩), fun z hz => Nat.lt_of_lt_of_le (hS.xlt z hz) e.size⟩, xh, ha, hn, ⟨rv, ?_, ?_⟩, hv⟩
  · obtain ⟨rv0, h1⟩ := hk
    simp only [World.setCell, Array.getElem?_modify, h1]
    simp
  · rcases hr with hr | ⟨rb, off, cap, cells, e1, xr, n, hh, r⟩
    · exact Or.inl hr
    · exact Or.inr ⟨rb, off, cap, cells, e1, xr, n, (e.block rb (heap_lt hh) n.1).trans hh, r⟩
theorem Mo.moved {v' : Value} (h : Mo Y w hb ab nb B regs) (hbl : Below w.heap.size w w1) (hown : w2.ownsRow w1.heap.size 28 1 v' (regs.length + 1) (regs.map encI ++ [encI z])) (hg : w1.grownBy w2 none) (hz : Sm B z) :
    ∃ Y', Mo Y' (w2.setCell ⟨hb, 1, none⟩ v') hb ab nb B (regs ++ [z]) ∧ (∀ b, Y' b → Y b ∨ w.heap.size ≤ b) ∧ (∀ b, Y b → Y' b) := by
  rcases hown.2 with ⟨_, h0⟩ | ⟨g, cap, cur, rfl, hbg, hh, r1, r2, r3, r4⟩
  · omega
  have hB : Below w.heap.size w w2 := hbl.grown hg hbl.size (fun k e => by cases e)
  have lg := heap_lt hh
  have s1 := hbl.size
  have hlk := h.lh
  have la := h.st.ar.la
  have ln := h.st.xlt nb h.st.ar.xn
  have hS : St (fun b => Y b ∨ b = g) w2 ab nb 65536 B := ⟨(h.st.ar.more (fun b hb => Or.inl hb) (fun b hb e => e.elim id (fun e => by omega))).below hB (Nat.le_refl _), fun q hq => hq.elim (fun e => Nat.lt_of_lt_of_le (h.st.xlt q e) hB.size) (fun e => by omega)⟩
  refine ⟨fun b => Y b ∨ b = g, mo_store hS (Or.inl h.xh) h.ha h.hn ?_ (Or.inr ⟨g, 0, cap, cur, by simp, Or.inr rfl, ⟨by omega, by omega, by omega, by omega⟩, hh, by omega, by simpa using r1, r2, fun j hj => ?_⟩) (fun r hr => ?_), fun b e => e.imp id (fun e => by omega), fun b e => Or.inl e⟩
  · obtain ⟨rv0, h1, _⟩ := h.reg
    exact ⟨rv0, (hB.block hb hlk).trans h1⟩
  · have e : (cur.toList.take ((regs.length + 1) * 1))[j]? = (regs.map encI ++ [encI z])[j]? := by rw [r4]
    have hj2 : j < regs.length + 1 := by simpa using hj
    rw [List.getElem?_take_of_lt (by omega)] at e
    rw [Nat.zero_add]
    have e2 : (regs.map encI ++ [encI z])[j]? = some (encI (regs ++ [z])[j]) := by
      rw [show regs.map encI ++ [encI z] = (regs ++ [z]).map encI by simp, List.getElem?_map, List.getElem?_eq_getElem hj]
      rfl
    rw [e2] at e
    simpa using e
  · rcases List.mem_append.1 hr with hr | hr
    · exact h.val r hr
    · rw [List.mem_singleton.1 hr]; exact hz
theorem St.scr (h : St Y w ab nb 65536 B) (e : Ext w.heap.size (fun b => b = D) w w') (hD : Y D) (ha : D ≠ ab) (hn : D ≠ nb) : St Y w' ab nb 65536 B :=
  ⟨h.ar.keep e (Nat.le_refl _) (fun b _ y => ⟨by rw [show b = D from y]; exact hD, fun q => ha (y.symm.trans q), fun q => hn (y.symm.trans q)⟩), fun z hz => Nat.lt_of_lt_of_le (h.xlt z hz) e.size⟩
theorem Mo.room {rb off cap : Nat} (h : Mo Y w hb ab nb B regs) (hbl : Below w.heap.size w w1) (hr : Reg Y w hb ab nb hb (.slice (some ⟨rb, off, none⟩) regs.length cap) regs) (hroom : regs.length + 1 ≤ cap) (hz : Sm B z) :
    Mo Y ((w1.setCell ⟨rb, off + regs.length, none⟩ (encI z)).setCell ⟨hb, 1, none⟩ (.slice (some ⟨rb, off, none⟩) (regs.length + 1) cap)) hb ab nb B (regs ++ [z]) := by
  rcases hr with ⟨e, _⟩ | ⟨rb', off', cap', cells, e, xr, ⟨n1, n2, n3, n4⟩, hh, r1, r2, r3, r4⟩
  · cases e
  simp only [Value.slice.injEq, Option.some.injEq, Addr.mk.injEq] at e
  obtain ⟨⟨rfl, rfl, _⟩, _, rfl⟩ := e
  have lr := heap_lt hh
  have s1 := hbl.size
  have hlk := h.lh
  have hM1 := h.below hbl
  have hh1 : w1.heap[rb]? = some (.cells cells 28 (0, 0)) := (hbl.block rb lr).trans hh
  have e1 : Ext w1.heap.size (fun b => b = rb) w1 (w1.setCell ⟨rb, off + regs.length, none⟩ (encI z)) := Ext.setCell (X := fun b => b = rb) (p := ⟨rb, off + regs.length, none⟩) (Ext.refl _ _ _) (Or.inr rfl) _
  have hh2 : (w1.setCell ⟨rb, off + regs.length, none⟩ (encI z)).heap[rb]? = some (.cells (cells.setIfInBounds (off + regs.length) (encI z)) 28 (0, 0)) := by
    simp only [World.setCell, Array.getElem?_modify, hh1]
    simp
  refine mo_store (hM1.st.scr e1 xr n2 n3) h.xh h.ha h.hn ?_ (Or.inr ⟨rb, off, cap, _, by simp, xr, ⟨n1, n2, n3, n4⟩, hh2, by simpa using r1, by simpa using hroom, r3, fun j hj => ?_⟩) (fun r hr => ?_)
  · obtain ⟨rv0, h1, _⟩ := hM1.reg
    exact ⟨rv0, (e1.block hb (by omega) (fun e => n1 e.symm)).trans h1⟩
  · have hj2 : j < regs.length + 1 := by simpa using hj
    by_cases hlt : j < regs.length
    · rw [Array.getElem?_setIfInBounds_ne (by omega), r4 j hlt, List.getElem_append_left hlt]
    · have ej : j = regs.length := by omega
      subst ej
      rw [Array.getElem?_setIfInBounds_self_of_lt (by omega)]
      simp
  · rcases List.mem_append.1 hr with hr | hr
    · exact h.val r hr
    · rw [List.mem_singleton.1 hr]; exact hz
theorem Mo.forget {rb off cap : Nat} (h : Mo Y w hb ab nb B regs) (hr : Reg Y w hb ab nb hb (.slice (some ⟨rb, off, none⟩) regs.length cap) regs) (hn : 1 < regs.length) :
    Mo Y (w.setCell ⟨hb, 1, none⟩ (.slice (some ⟨rb, off + 1, none⟩) (regs.length - 1) (cap - 1))) hb ab nb B regs.tail := by
  rcases hr with ⟨e, _⟩ | ⟨rb', off', cap', cells, e, xr, n, hh, r1, r2, r3, r4⟩
  · cases e
  simp only [Value.slice.injEq, Option.some.injEq, Addr.mk.injEq] at e
  obtain ⟨⟨rfl, rfl, _⟩, _, rfl⟩ := e
  refine mo_store h.st h.xh h.ha h.hn ?_ (Or.inr ⟨rb, off + 1, cap - 1, cells, by simp, xr, n, hh, by omega, by simp; omega, by omega, fun j hj => ?_⟩) (fun r hr => h.val r (List.mem_of_mem_tail hr))
  · obtain ⟨rv0, h1, _⟩ := h.reg
    exact ⟨rv0, h1⟩
  · have hj2 : j + 1 < regs.length := by simp at hj; omega
    rw [show off + 1 + j = off + (j + 1) by omega, r4 (j + 1) hj2]
    simp

/-! ### while keep works: its result lies in block w.heap.size -/
structure KT (Y : Nat → Prop) (w : World) (hb ab nb : Nat) (B : List Nd) (regs : List Int) (Y1 : Nat → Prop) (w1 : World) : Prop where
  mo : Mo Y1 w1 hb ab nb B regs
  res : ∃ p0 p1 p2 p3 p4, w1.heap[w.heap.size]? = some (.cells #[p0, p1, p2, p3, p4] 95 (0, 0))
  xres : Y1 w.heap.size
  na : w.heap.size ≠ ab
  nn : w.heap.size ≠ nb
  nh : w.heap.size ≠ hb
  nr : ∀ rb off n cap, w1.cell? ⟨hb, 1, none⟩ = some (.slice (some ⟨rb, off, none⟩) n cap) → rb ≠ w.heap.size
  ext : Ext w.heap.size (Th w hb) w w1
  sub : ∀ b, b < w.heap.size → (Y1 b ↔ Y b)
  tr : ∀ rb off n cap, w1.cell? ⟨hb, 1, none⟩ = some (.slice (some ⟨rb, off, none⟩) n cap) → rb < w.heap.size → Th w hb rb
theorem KT.lt {Y1 : Nat → Prop} (h : KT Y w hb ab nb B regs Y1 w1) : w.heap.size < w1.heap.size := by
  obtain ⟨_, _, _, _, _, q⟩ := h.res
  exact heap_lt q
theorem KT.start5 (h : Mo Y w hb ab nb B regs) (v0 v1 v2 v3 v4 : Value) : KT Y w hb ab nb B regs (Plus' Y w.heap.size) (w.alloc (.cells #[v0, v1, v2, v3, v4] 95)) := by
  have hbl := alloc_below (w := w) (.cells #[v0, v1, v2, v3, v4] 95)
  have l1 := h.st.xlt _ h.st.ar.xa
  have l2 := h.st.xlt _ h.st.ar.xn
  have l3 := h.lh
  have hm : Mo (Plus' Y w.heap.size) (w.alloc (.cells #[v0, v1, v2, v3, v4] 95)) hb ab nb B regs :=
    h.keepT (Ext.of_below hbl (fun _ => False)) (fun _ _ q => q.elim) (fun b hl => ⟨fun q => q.elim id (fun e => by omega), Or.inl⟩) (fun b q => by
      rw [Deep.nblk_alloc]
      rcases q with q | q
      · have := h.st.xlt b q; omega
      · omega)
  obtain ⟨rv, r1, r2⟩ := h.reg
  refine ⟨hm, ⟨_, _, _, _, _, heap_new _ _⟩, Or.inr rfl, by omega, by omega, by omega, fun rb off n cap e => ?_, Ext.of_below hbl _, fun b hl => ⟨fun q => q.elim id (fun e => by omega), Or.inl⟩, fun rb off n cap e _ => Or.inr ⟨off, n, cap, ?_⟩⟩
  · rw [hbl.cell (p := ⟨hb, 1, none⟩) l3, box_cell r1 1] at e
    rcases r2 with ⟨p, _⟩ | ⟨rb', off', cap', cells, p, xr, _⟩
    · rw [p] at e; simp at e
    · rw [p] at e
      simp at e
      have := h.st.xlt _ xr
      omega
  · rw [← hbl.cell (p := ⟨hb, 1, none⟩) l3]; exact e
theorem KT.start (h : Mo Y w hb ab nb B regs) : KT Y w hb ab nb B regs (Plus' Y w.heap.size) (w.alloc (.cells #[.bool false, .bool false, .bool false, .bool false, .int .i64 0] 95)) := KT.start5 h _ _ _ _ _
theorem KT.below {Y1 : Nat → Prop} (h : KT Y w hb ab nb B regs Y1 w1) (k : Below w1.heap.size w1 w2) : KT Y w hb ab nb B regs Y1 w2 := by
  obtain ⟨p0, p1, p2, p3, p4, q⟩ := h.res
  have e := k.cell (p := ⟨hb, 1, none⟩) h.mo.lh
  exact ⟨h.mo.below k, ⟨p0, p1, p2, p3, p4, (k.block _ h.lt).trans q⟩, h.xres, h.na, h.nn, h.nh, fun rb off n cap f => h.nr rb off n cap (e.symm.trans f), h.ext.andThen k h.ext.size, h.sub, fun rb off n cap f => h.tr rb off n cap (e.symm.trans f)⟩
end
end Go.Proofs.Qxb6500848aGreatDoor
