/-
  What the tail of build rests on.
-/
import Derived.Test.Qxb6500848aGreatDoorBuildB
namespace Go.Proofs.Qxb6500848aGreatDoor
open Go.RowKit Pl Go.Maps
set_option maxRecDepth 100000

def BdPost (X : Nat → Prop) (A : List Nd) (B0 kb eb mb ab : Nat) (w : World) (e : Ending) (w' : World) : Prop :=
  ∃ X' nb' A' regs' f0 f1 f2 f3 n, e = .returned (.agg #[.bool f0, .bool f1, .bool f2, .bool f3, .int .i64 n]) ∧ Mc X' w' kb eb mb ab nb' 65536 A' regs' ∧ regs'.length ≤ 8 ∧ (∀ z, X' z → B0 ≤ z) ∧ Below B0 w w' ∧ Le A A' ∧ Ext w.heap.size X w w' ∧ ∀ b, b < w.heap.size → (X' b ↔ X b)

/-- A block D of X that the machine does not use. -/
structure Spare (w : World) (D kb ab nb mb : Nat) : Prop where
  da : D ≠ ab
  dn : D ≠ nb
  dm : D ≠ mb
  dk : D ≠ kb
  dr : ∀ rb off n cap, w.cell? ⟨kb, 2, none⟩ = some (.slice (some ⟨rb, off, none⟩) n cap) → rb ≠ D

theorem Mc.other {X : Nat → Prop} {w w' : World} {kb eb mb ab nb D : Nat} {lim : Int} {A : List Nd} {regs : List Int} (h : Mc X w kb eb mb ab nb lim A regs) (hs : Spare w D kb ab nb mb) (hD : X D) (e : Ext w.heap.size (fun b => b = D) w w') : Mc X w' kb eb mb ab nb lim A regs := by
  obtain ⟨rv, h1, h2⟩ := h.reg
  refine ⟨h.en.setCell e hD hs.da hs.dn hs.dm, h.xk, h.ka, h.kn, h.km, ⟨rv, (e.block kb h.lk (fun q => hs.dk q.symm)).trans h1, ?_⟩, h.val⟩
  rcases h2 with h2 | ⟨rb, off, cap, cells, e1, xr, n, hh, r⟩
  · exact Or.inl h2
  · exact Or.inr ⟨rb, off, cap, cells, e1, xr, n, (e.block rb (heap_lt hh) (hs.dr rb off _ cap (by rw [box_cell h1 2, ← e1]; rfl))).trans hh, r⟩

variable {X0 : Nat → Prop} {AA : List Nd}
structure BT (X0 : Nat → Prop) (AA : List Nd) (w : World) (kb eb mb ab : Nat) (regs : List Int) (B0 : Nat) (X1 : Nat → Prop) (w1 : World) (nb1 : Nat) (A1 : List Nd) : Prop where
  mc : Mc X1 w1 kb eb mb ab nb1 65536 A1 regs
  lo : ∀ z, X1 z → B0 ≤ z
  bel : Below B0 w w1
  res : ∃ p0 p1 p2 p3 p4, w1.heap[w.heap.size + 1]? = some (.cells #[p0, p1, p2, p3, p4] 95 (0, 0))
  xres : X1 (w.heap.size + 1)
  sp : Spare w1 (w.heap.size + 1) kb ab nb1 mb
  ge : B0 ≤ w.heap.size
  lt : w.heap.size + 1 < w1.heap.size
  le : Le AA A1
  ext : Ext w.heap.size X0 w w1
  sub : ∀ b, b < w.heap.size → (X1 b ↔ X0 b)

theorem BT.start {X : Nat → Prop} {w : World} {kb eb mb ab nb : Nat} {A : List Nd} {regs : List Int} (hM : Mc X w kb eb mb ab nb 65536 A regs) {B0 : Nat} (hX : ∀ z, X z → B0 ≤ z) (hB : B0 ≤ w.heap.size) (o : Obj) :
    BT X A w kb eb mb ab regs B0 (fun b => X b ∨ b = w.heap.size + 1) ((w.alloc o).alloc (.cells #[.bool false, .bool false, .bool false, .bool false, .int .i64 0] 95)) nb A := by
  have s1 : ∀ (W : World) (o : Obj), (W.alloc o).heap.size = W.heap.size + 1 := Deep.nblk_alloc
  have hb : Below w.heap.size w ((w.alloc o).alloc (.cells #[.bool false, .bool false, .bool false, .bool false, .int .i64 0] 95)) := (alloc_below _).trans ((alloc_below _).mono (alloc_below _).size)
  have hE : En (fun b => X b ∨ b = w.heap.size + 1) ((w.alloc o).alloc (.cells #[.bool false, .bool false, .bool false, .bool false, .int .i64 0] 95)) eb mb ab nb 65536 A := hM.en.more hb (Nat.le_refl _) (fun b h => Or.inl h) (fun b hb h => h.elim id (fun e => by omega)) (fun z hz => by
    rw [s1, s1]
    rcases hz with hz | hz
    · have := hM.en.st.xlt z hz; omega
    · omega)
  have lk := hM.lk
  have la := hM.en.st.ar.la
  have ln := hM.en.st.xlt nb hM.en.st.ar.xn
  have lm := hM.en.lm
  obtain ⟨rv, h1, h2⟩ := hM.reg
  have hk := (hb.block kb lk).trans h1
  refine ⟨⟨hE, Or.inl hM.xk, hM.ka, hM.kn, hM.km, ⟨rv, hk, ?_⟩, hM.val⟩, fun z hz => hz.elim (hX z) (fun e => by omega), hb.mono hB, ⟨_, _, _, _, _, new_at _ _ (s1 _ _)⟩, Or.inr rfl, ⟨by omega, by omega, by omega, by omega, fun rb off n cap e => ?_⟩, hB, by rw [s1, s1]; omega, Le.refl _, Ext.of_below hb _, fun b hb => ⟨fun h => h.elim id (fun e => by omega), Or.inl⟩⟩
  · rcases h2 with h2 | ⟨rb, off, cap, cells, e1, xr, n, hh, r⟩
    · exact Or.inl h2
    · exact Or.inr ⟨rb, off, cap, cells, e1, Or.inl xr, n, (hb.block rb (heap_lt hh)).trans hh, r⟩
  · rw [box_cell hk 2] at e
    have e' : rv = .slice (some ⟨rb, off, none⟩) n cap := Option.some.inj e
    rcases h2 with ⟨h2, _⟩ | ⟨rb', off', cap', cells, e1, xr, _⟩
    · rw [h2] at e'; cases e'
    · rw [e1] at e'
      simp only [Value.slice.injEq, Option.some.injEq, Addr.mk.injEq] at e'
      have := hM.en.st.xlt rb' xr
      omega

theorem BT.below' {w : World} {kb eb mb ab : Nat} {regs : List Int} {B0 : Nat} {X1 : Nat → Prop} {w1 w2 : World} {nb1 : Nat} {A1 : List Nd} (h : BT X0 AA w kb eb mb ab regs B0 X1 w1 nb1 A1) (k : Below w1.heap.size w1 w2) : BT X0 AA w kb eb mb ab regs B0 X1 w2 nb1 A1 := by
  obtain ⟨p0, p1, p2, p3, p4, hr⟩ := h.res
  have lt := h.lt
  have ge := h.ge
  exact ⟨h.mc.below k, h.lo, h.bel.trans (k.mono (by omega)), ⟨p0, p1, p2, p3, p4, (k.block _ lt).trans hr⟩, h.xres, ⟨h.sp.da, h.sp.dn, h.sp.dm, h.sp.dk, fun rb off n cap e => h.sp.dr rb off n cap ((k.cell (p := ⟨kb, 2, none⟩) h.mc.lk).symm.trans e)⟩, ge, Nat.lt_of_lt_of_le lt k.size, h.le, h.ext.andThen k h.ext.size, h.sub⟩

theorem BT.grow {w : World} {kb eb mb ab : Nat} {regs : List Int} {B0 : Nat} {X1 X2 : Nat → Prop} {w1 w2 : World} {nb1 nb2 : Nat} {A1 A2 : List Nd} (h : BT X0 AA w kb eb mb ab regs B0 X1 w1 nb1 A1) (g : GrE X1 w1 eb mb ab nb1 65536 A1 X2 w2 nb2 A2) : BT X0 AA w kb eb mb ab regs B0 X2 w2 nb2 A2 := by
  obtain ⟨p0, p1, p2, p3, p4, hr⟩ := h.res
  have lt := h.lt
  have ge := h.ge
  have lk := h.mc.lk
  refine ⟨h.mc.grow g, fun z hz => ?_, h.bel.trans (g.ext.below' (by omega) (fun k hk e => ?_)), ⟨p0, p1, p2, p3, p4, (g.ext.block _ lt (fun e => by
      rcases e with e | e | e
      · exact h.sp.da e
      · exact h.sp.dn e
      · exact h.sp.dm e)).trans hr⟩, (g.sub _ lt).2 h.xres, ⟨h.sp.da, ?_, h.sp.dm, h.sp.dk, fun rb off n cap e => h.sp.dr rb off n cap ((g.ext.cell (p := ⟨kb, 2, none⟩) lk (fun e => by
      rcases e with e | e | e
      · exact h.mc.ka e
      · exact h.mc.kn e
      · exact h.mc.km e)).symm.trans e)⟩, ge, Nat.lt_of_lt_of_le lt g.ext.size, h.le.trans g.le, h.ext.trans g.ext h.ext.size (fun i hi e => (h.sub i hi).1 (by
      rcases e with e | e | e
      · rw [e]; exact h.mc.en.st.ar.xa
      · rw [e]; exact h.mc.en.st.ar.xn
      · rw [e]; exact h.mc.en.xm)), fun b hb => (g.sub b (by omega)).trans (h.sub b hb)⟩
  · by_cases hlt : z < w1.heap.size
    · exact h.lo z ((g.sub z hlt).1 hz)
    · omega
  · have hx : X1 k := by
      rcases e with e | e | e
      · rw [e]; exact h.mc.en.st.ar.xa
      · rw [e]; exact h.mc.en.st.ar.xn
      · rw [e]; exact h.mc.en.xm
    have := h.lo k hx
    omega
  · rcases g.nbs with e | e
    · rw [e]; exact h.sp.dn
    · omega

def five (w : World) (D : Nat) (a b c d n : Value) : World := ((((w.setCell ⟨D, 0, none⟩ a).setCell ⟨D, 1, none⟩ b).setCell ⟨D, 2, none⟩ c).setCell ⟨D, 3, none⟩ d).setCell ⟨D, 4, none⟩ n
theorem five_ext (w : World) (D : Nat) (a b c d n : Value) : Ext w.heap.size (fun k => k = D) w (five w D a b c d n) := by
  have e1 := Ext.setCell (X := fun k => k = D) (p := ⟨D, 0, none⟩) (Ext.refl w.heap.size (fun k => k = D) w) (Or.inr rfl) a
  have e2 := Ext.setCell (X := fun k => k = D) (p := ⟨D, 1, none⟩) e1 (Or.inr rfl) b
  have e3 := Ext.setCell (X := fun k => k = D) (p := ⟨D, 2, none⟩) e2 (Or.inr rfl) c
  have e4 := Ext.setCell (X := fun k => k = D) (p := ⟨D, 3, none⟩) e3 (Or.inr rfl) d
  exact Ext.setCell (X := fun k => k = D) (p := ⟨D, 4, none⟩) e4 (Or.inr rfl) n
theorem five_heap {w : World} {D : Nat} {p0 p1 p2 p3 p4 : Value} {t : TypeId} (h : w.heap[D]? = some (.cells #[p0, p1, p2, p3, p4] t (0, 0))) (a b c d n : Value) : (five w D a b c d n).heap[D]? = some (.cells #[a, b, c, d, n] t (0, 0)) := by
  unfold five
  simp [World.setCell, Array.getElem?_modify, h]

theorem BT.rcells {w : World} {kb eb mb ab : Nat} {regs : List Int} {B0 : Nat} {X1 : Nat → Prop} {w1 : World} {nb1 : Nat} {A1 : List Nd} (h : BT X0 AA w kb eb mb ab regs B0 X1 w1 nb1 A1) :
    ∃ p0 p1 p2 p3 p4, (w1.cell? ⟨w.heap.size + 1, 0, none⟩ = some p0 ∧ w1.cell? ⟨w.heap.size + 1, 1, none⟩ = some p1 ∧ w1.cell? ⟨w.heap.size + 1, 2, none⟩ = some p2 ∧ w1.cell? ⟨w.heap.size + 1, 3, none⟩ = some p3 ∧ w1.cell? ⟨w.heap.size + 1, 4, none⟩ = some p4) ∧ (∀ i, w1.frozen? ⟨w.heap.size + 1, i, none⟩ = false) := by
  obtain ⟨p0, p1, p2, p3, p4, hr⟩ := h.res
  exact ⟨p0, p1, p2, p3, p4, ⟨box_cell hr 0, box_cell hr 1, box_cell hr 2, box_cell hr 3, box_cell hr 4⟩, fun i => by simp [World.frozen?, hr]⟩

/-- The end of build: the result is laid. -/
theorem BT.done {w : World} {kb eb mb ab : Nat} {regs : List Int} {B0 : Nat} {X1 : Nat → Prop} {w1 : World} {nb1 : Nat} {A1 : List Nd} (h : BT X0 AA w kb eb mb ab regs B0 X1 w1 nb1 A1) (hl : regs.length ≤ 8) (f0 f1 f2 f3 : Bool) (n : Int) :
    BdPost X0 AA B0 kb eb mb ab w (.returned (.agg #[.bool f0, .bool f1, .bool f2, .bool f3, .int .i64 n])) (five w1 (w.heap.size + 1) (.bool f0) (.bool f1) (.bool f2) (.bool f3) (.int .i64 n)) ∧ (five w1 (w.heap.size + 1) (.bool f0) (.bool f1) (.bool f2) (.bool f3) (.int .i64 n)).heap[w.heap.size + 1]? = some (.cells #[.bool f0, .bool f1, .bool f2, .bool f3, .int .i64 n] 95 (0, 0)) := by
  obtain ⟨p0, p1, p2, p3, p4, hr⟩ := h.res
  have e := five_ext w1 (w.heap.size + 1) (.bool f0) (.bool f1) (.bool f2) (.bool f3) (.int .i64 n)
  have ge := h.ge
  have lt := h.lt
  exact ⟨⟨X1, nb1, A1, regs, f0, f1, f2, f3, n, rfl, h.mc.other h.sp h.xres e, hl, h.lo, h.bel.trans (e.below' (by omega) (fun k hk q => by omega)), h.le, h.ext.trans e h.ext.size (fun i hi q => by omega), h.sub⟩, five_heap hr _ _ _ _ _⟩
end Go.Proofs.Qxb6500848aGreatDoor
