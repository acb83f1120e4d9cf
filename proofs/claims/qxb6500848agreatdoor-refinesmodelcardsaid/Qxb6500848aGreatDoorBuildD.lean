/-
  build: the registers' new row; the end.
-/
import Derived.Test.Qxb6500848aGreatDoorBuildC
namespace Go.Proofs.Qxb6500848aGreatDoor
open Go.RowKit Pl Go.Maps
set_option maxRecDepth 100000
variable {X0 : Nat → Prop} {AA : List Nd}

theorem BT.step {w : World} {kb eb mb ab : Nat} {regs regs3 : List Int} {B0 : Nat} {X1 X3 : Nat → Prop} {w1 w3 : World} {nb1 : Nat} {A1 : List Nd} (h : BT X0 AA w kb eb mb ab regs B0 X1 w1 nb1 A1) (hM : Mc X3 w3 kb eb mb ab nb1 65536 A1 regs3) (hX : ∀ b, X3 b → X1 b ∨ w1.heap.size ≤ b) (hX' : ∀ b, X1 b → X3 b) {rb : Nat} (hrb : rb = kb ∨ (X1 rb ∧ rb ≠ w.heap.size + 1)) (e : Ext w1.heap.size (fun b => b = kb ∨ b = rb) w1 w3)
    (hr : ∀ rb off n cap, w3.cell? ⟨kb, 2, none⟩ = some (.slice (some ⟨rb, off, none⟩) n cap) → rb ≠ w.heap.size + 1) : BT X0 AA w kb eb mb ab regs3 B0 X3 w3 nb1 A1 := by
  obtain ⟨p0, p1, p2, p3, p4, hres⟩ := h.res
  have lt := h.lt
  have ge := h.ge
  have hk := h.lo kb h.mc.xk
  refine ⟨hM, fun z hz => ?_, h.bel.trans (e.below' (by omega) (fun k hk' q => ?_)), ⟨p0, p1, p2, p3, p4, (e.block _ lt (fun q => ?_)).trans hres⟩, hX' _ h.xres, ⟨h.sp.da, h.sp.dn, h.sp.dm, h.sp.dk, hr⟩, ge, Nat.lt_of_lt_of_le lt e.size, h.le, h.ext.trans e h.ext.size (fun i hi q => (h.sub i hi).1 (by
    rcases q with q | q
    · rw [q]; exact h.mc.xk
    · rcases hrb with r | r
      · rw [q, r]; exact h.mc.xk
      · rw [q]; exact r.1)), fun b hb => ⟨fun x => (h.sub b hb).1 ((hX b x).elim id (fun q => by omega)), fun x => hX' b ((h.sub b hb).2 x)⟩⟩
  · rcases hX z hz with q | q
    · exact h.lo z q
    · omega
  · rcases q with q | q
    · omega
    · rcases hrb with r | r
      · omega
      · have := h.lo rb r.1; omega
  · rcases q with q | q
    · exact h.sp.dk q
    · rcases hrb with r | r
      · exact h.sp.dk (q.trans r)
      · exact r.2 q.symm

theorem BT.kfz {w : World} {kb eb mb ab : Nat} {regs : List Int} {B0 : Nat} {X1 : Nat → Prop} {w1 : World} {nb1 : Nat} {A1 : List Nd} (h : BT X0 AA w kb eb mb ab regs B0 X1 w1 nb1 A1) : w1.frozen? ⟨kb, 2, none⟩ = false := by
  obtain ⟨rv, h1, _⟩ := h.mc.reg
  simp [World.frozen?, h1]

/-- The row of registers moves. -/
theorem BT.moved {w : World} {kb eb mb ab : Nat} {regs : List Int} {B0 : Nat} {X1 : Nat → Prop} {w1 w2 w3 : World} {nb1 : Nat} {A1 : List Nd} {z : Int} {v' : Value} (h : BT X0 AA w kb eb mb ab regs B0 X1 w1 nb1 A1) (hb : Below w1.heap.size w1 w2) (hown : w3.ownsRow w2.heap.size 28 1 v' (regs.length + 1) (regs.map encI ++ [encI z])) (hg : w2.grownBy w3 none) (hz : Sm A1 z) :
    ∃ X', BT X0 AA w kb eb mb ab (regs ++ [z]) B0 X' (w3.setCell ⟨kb, 2, none⟩ v') nb1 A1 := by
  obtain ⟨X', hM, hX, hX'⟩ := h.mc.moved hb hown hg hz
  have hB : Below w1.heap.size w1 w3 := hb.grown hg hb.size (fun k e => by cases e)
  have lt := h.lt
  have s1 := hb.size
  refine ⟨X', h.step hM hX hX' (rb := kb) (Or.inl rfl) (Ext.setCell (X := fun b => b = kb ∨ b = kb) (p := ⟨kb, 2, none⟩) (Ext.of_below hB _) (Or.inr (Or.inl rfl)) _) (fun rb off n cap e => ?_)⟩
  obtain ⟨rv, h1, h2⟩ := hM.reg
  have lk : kb < w3.heap.size := Nat.lt_of_lt_of_le h.mc.lk hB.size
  have hk : ∃ rv0, w3.heap[kb]? = some (.cells #[.pointer (some ⟨ab, 0, none⟩), .pointer (some ⟨eb, 0, none⟩), rv0] 39 (0, 0)) := by
    obtain ⟨rv0, q, _⟩ := h.mc.reg
    exact ⟨rv0, (hB.block kb h.mc.lk).trans q⟩
  obtain ⟨rv0, hk⟩ := hk
  have e2 : (w3.setCell ⟨kb, 2, none⟩ v').cell? ⟨kb, 2, none⟩ = some v' := by
    simp [World.setCell, World.cell?, Array.getElem?_modify, hk]
  rw [e2] at e
  have e' := Option.some.inj e
  rcases hown.2 with ⟨_, h0⟩ | ⟨g, cap', cur, rfl, hbg, _⟩
  · omega
  · simp only [Value.slice.injEq, Option.some.injEq, Addr.mk.injEq] at e'
    omega

/-- There was room. -/
theorem BT.room {w : World} {kb eb mb ab : Nat} {regs : List Int} {B0 : Nat} {X1 : Nat → Prop} {w1 w2 : World} {nb1 : Nat} {A1 : List Nd} {z : Int} {rb off cap : Nat} (h : BT X0 AA w kb eb mb ab regs B0 X1 w1 nb1 A1) (hb : Below w1.heap.size w1 w2) (hk2 : w1.cell? ⟨kb, 2, none⟩ = some (.slice (some ⟨rb, off, none⟩) regs.length cap)) (hr : Reg X1 w1 kb ab nb1 mb (.slice (some ⟨rb, off, none⟩) regs.length cap) regs) (hroom : regs.length + 1 ≤ cap) (hz : Sm A1 z) :
    BT X0 AA w kb eb mb ab (regs ++ [z]) B0 X1 ((w2.setCell ⟨rb, off + regs.length, none⟩ (encI z)).setCell ⟨kb, 2, none⟩ (.slice (some ⟨rb, off, none⟩) (regs.length + 1) cap)) nb1 A1 := by
  have hM := h.mc.room hb hr hroom hz
  have hx : X1 rb := by
    rcases hr with ⟨e, _⟩ | ⟨rb', off', cap', cells, e, xr, _⟩
    · cases e
    · simp only [Value.slice.injEq, Option.some.injEq, Addr.mk.injEq] at e
      obtain ⟨⟨rfl, rfl, _⟩, _, rfl⟩ := e
      exact xr
  have hne := h.sp.dr rb off _ cap hk2
  refine h.step hM (fun b hb => Or.inl hb) (fun b hb => hb) (rb := rb) (Or.inr ⟨hx, hne⟩) (Ext.setCell (X := fun b => b = kb ∨ b = rb) (p := ⟨kb, 2, none⟩) (Ext.setCell (X := fun b => b = kb ∨ b = rb) (p := ⟨rb, off + regs.length, none⟩) (Ext.of_below hb _) (Or.inr (Or.inr rfl)) _) (Or.inr (Or.inl rfl)) _) (fun rb' off' n cap' e => ?_)
  obtain ⟨rv, h1, h2⟩ := hM.reg
  obtain ⟨rv0, q, _⟩ := h.mc.reg
  have lk := h.mc.lk
  have n1 : rb ≠ kb := by
    rcases hr with ⟨e, _⟩ | ⟨rb', off', cap', cells, e, xr, n, _⟩
    · cases e
    · simp only [Value.slice.injEq, Option.some.injEq, Addr.mk.injEq] at e
      obtain ⟨⟨rfl, rfl, _⟩, _, rfl⟩ := e
      exact n.1
  have hk : (w2.setCell ⟨rb, off + regs.length, none⟩ (encI z)).heap[kb]? = some (.cells #[.pointer (some ⟨ab, 0, none⟩), .pointer (some ⟨eb, 0, none⟩), rv0] 39 (0, 0)) := by
    have := (hb.block kb lk).trans q
    simp [World.setCell, Array.getElem?_modify, n1, this]
  have e2 : ((w2.setCell ⟨rb, off + regs.length, none⟩ (encI z)).setCell ⟨kb, 2, none⟩ (.slice (some ⟨rb, off, none⟩) (regs.length + 1) cap)).cell? ⟨kb, 2, none⟩ = some (.slice (some ⟨rb, off, none⟩) (regs.length + 1) cap) := by
    generalize w2.setCell ⟨rb, off + regs.length, none⟩ (encI z) = W at hk
    simp [World.setCell, World.cell?, Array.getElem?_modify, hk]
  rw [e2] at e
  have e' := Option.some.inj e
  simp only [Value.slice.injEq, Option.some.injEq, Addr.mk.injEq] at e'
  omega

theorem BT.forget {w : World} {kb eb mb ab : Nat} {regs : List Int} {B0 : Nat} {X1 : Nat → Prop} {w1 : World} {nb1 : Nat} {A1 : List Nd} {rb off cap : Nat} (h : BT X0 AA w kb eb mb ab regs B0 X1 w1 nb1 A1) (hk2 : w1.cell? ⟨kb, 2, none⟩ = some (.slice (some ⟨rb, off, none⟩) regs.length cap)) (hn : 1 < regs.length) :
    BT X0 AA w kb eb mb ab regs.tail B0 X1 (w1.setCell ⟨kb, 2, none⟩ (.slice (some ⟨rb, off + 1, none⟩) (regs.length - 1) (cap - 1))) nb1 A1 := by
  obtain ⟨rv, h0, h2⟩ := h.mc.reg
  have hr : Reg X1 w1 kb ab nb1 mb (.slice (some ⟨rb, off, none⟩) regs.length cap) regs := by
    have : rv = .slice (some ⟨rb, off, none⟩) regs.length cap := Option.some.inj ((box_cell h0 2).symm.trans hk2)
    rw [this] at h2; exact h2
  have hne := h.sp.dr rb off _ cap hk2
  have hM := h.mc.forget hr hn
  refine h.step hM (fun b hb => Or.inl hb) (fun b hb => hb) (rb := kb) (Or.inl rfl) (Ext.setCell (X := fun b => b = kb ∨ b = kb) (p := ⟨kb, 2, none⟩) (Ext.refl _ _ _) (Or.inr (Or.inl rfl)) _) (fun rb' off' n cap' e => ?_)
  have e2 : (w1.setCell ⟨kb, 2, none⟩ (.slice (some ⟨rb, off + 1, none⟩) (regs.length - 1) (cap - 1))).cell? ⟨kb, 2, none⟩ = some (.slice (some ⟨rb, off + 1, none⟩) (regs.length - 1) (cap - 1)) := by
    simp [World.setCell, World.cell?, Array.getElem?_modify, h0]
  rw [e2] at e
  have e' := Option.some.inj e
  simp only [Value.slice.injEq, Option.some.injEq, Addr.mk.injEq] at e'
  omega

/-- The row has moved: all that the walk wants. -/
theorem BT.appended {w : World} {kb eb mb ab : Nat} {regs : List Int} {B0 : Nat} {X1 : Nat → Prop} {w1 w2 w3 : World} {nb1 : Nat} {A1 : List Nd} {z : Int} {v' : Value} (h : BT X0 AA w kb eb mb ab regs B0 X1 w1 nb1 A1) (hb : Below w1.heap.size w1 w2) {m : Nat} (hm : m = regs.length) (hown : w3.ownsRow w2.heap.size 28 1 v' (m + 1) (regs.map encI ++ [encI z])) (hg : w2.grownBy w3 none) (hz : Sm A1 z) :
    ∃ g cap X', v' = .slice (some ⟨g, 0, none⟩) (m + 1) cap ∧ m + 1 ≤ cap ∧ cap ≤ maxLen ∧ Below w1.heap.size w1 w3 ∧ Hid (BT X0 AA w kb eb mb ab (regs ++ [z]) B0 X' (w3.setCell ⟨kb, 2, none⟩ (.slice (some ⟨g, 0, none⟩) (m + 1) cap)) nb1 A1) := by
  subst hm
  obtain ⟨X', h1⟩ := h.moved hb hown hg hz
  rcases hown.2 with ⟨_, h0⟩ | ⟨g, cap', cur, rfl, hbg, hh, r1, r2, r3⟩
  · omega
  · exact ⟨g, cap', X', rfl, r1, r2, hb.grown hg hb.size (fun k e => by cases e), h1⟩

theorem BT.made {w : World} {kb eb mb ab : Nat} {regs : List Int} {B0 : Nat} {X1 X' : Nat → Prop} {w1 W w2 : World} {nb1 nb' : Nat} {A1 A' : List Nd} (h : BT X0 AA w kb eb mb ab regs B0 X1 w1 nb1 A1) (g : Grow X1 W ab nb1 65536 A1 X' w2 nb' A') (hW : Below w1.heap.size w1 W) : BT X0 AA w kb eb mb ab regs B0 X' w2 nb' A' :=
  (h.below' hW).grow ((h.below' hW).mc.en.grow g)

/-- The cells that a region of build reads are kept. -/
theorem BT.keep4 {w : World} {kb eb mb ab : Nat} {regs : List Int} {B0 : Nat} {X1 X' : Nat → Prop} {w1 W w2 : World} {nb1 nb' : Nat} {A1 A' : List Nd} (h : BT X0 AA w kb eb mb ab regs B0 X1 w1 nb1 A1) (na : w.heap.size ≠ ab) (nn : w.heap.size ≠ nb1) {v0 v1 v2 v3 : Value} (hc : w1.cell? ⟨kb, 0, none⟩ = some v0 ∧ w1.cell? ⟨w.heap.size, 1, none⟩ = some v1 ∧ w1.cell? ⟨w.heap.size, 2, none⟩ = some v2 ∧ w1.cell? ⟨w.heap.size, 3, none⟩ = some v3) (g : Grow X1 W ab nb1 65536 A1 X' w2 nb' A') (hW : Below w1.heap.size w1 W) :
    w2.cell? ⟨kb, 0, none⟩ = some v0 ∧ w2.cell? ⟨w.heap.size, 1, none⟩ = some v1 ∧ w2.cell? ⟨w.heap.size, 2, none⟩ = some v2 ∧ w2.cell? ⟨w.heap.size, 3, none⟩ = some v3 := by
  have lt := h.lt
  have lk := h.mc.lk
  have sW := hW.size
  have lw : w.heap.size < w1.heap.size := by omega
  have kk : ∀ p : Addr, p.block < w1.heap.size → p.block ≠ ab → p.block ≠ nb1 → w2.cell? p = w1.cell? p := fun p hp h1 h2 => (g.ext.cell (p := p) (by omega) (fun e => e.elim h1 h2)).trans (hW.cell hp)
  exact ⟨(kk _ lk h.mc.ka h.mc.kn).trans hc.1, (kk ⟨w.heap.size, 1, none⟩ lw na nn).trans hc.2.1, (kk ⟨w.heap.size, 2, none⟩ lw na nn).trans hc.2.2.1, (kk ⟨w.heap.size, 3, none⟩ lw na nn).trans hc.2.2.2⟩

theorem BT.keepB {w : World} {kb eb mb ab : Nat} {regs : List Int} {B0 : Nat} {X1 : Nat → Prop} {w1 W : World} {nb1 : Nat} {A1 : List Nd} (h : BT X0 AA w kb eb mb ab regs B0 X1 w1 nb1 A1) {v0 v1 v2 v3 : Value} (hc : w1.cell? ⟨kb, 0, none⟩ = some v0 ∧ w1.cell? ⟨w.heap.size, 1, none⟩ = some v1 ∧ w1.cell? ⟨w.heap.size, 2, none⟩ = some v2 ∧ w1.cell? ⟨w.heap.size, 3, none⟩ = some v3) (hW : Below w1.heap.size w1 W) :
    W.cell? ⟨kb, 0, none⟩ = some v0 ∧ W.cell? ⟨w.heap.size, 1, none⟩ = some v1 ∧ W.cell? ⟨w.heap.size, 2, none⟩ = some v2 ∧ W.cell? ⟨w.heap.size, 3, none⟩ = some v3 := by
  have lt := h.lt
  have lk := h.mc.lk
  have lw : w.heap.size < w1.heap.size := by omega
  exact ⟨(hW.cell (p := ⟨kb, 0, none⟩) lk).trans hc.1, (hW.cell (p := ⟨w.heap.size, 1, none⟩) lw).trans hc.2.1, (hW.cell (p := ⟨w.heap.size, 2, none⟩) lw).trans hc.2.2.1, (hW.cell (p := ⟨w.heap.size, 3, none⟩) lw).trans hc.2.2.2⟩

theorem fold6_walk (i : Int) (w : World) : Calls Tryz.prog 111 #[.int .i64 i] w fun e w' => ∃ r, 0 ≤ r ∧ r ≤ 5 ∧ e = .returned (.int .i64 r) ∧ w' = w := by
  have q0 : 0 ≤ i % 6 := Int.emod_nonneg _ (by omega)
  have q1 : i % 6 ≤ 5 := by have := Int.emod_lt_of_pos i (show (0 : Int) < 6 by omega); omega
  generalize hm : i % 6 = m at *
  have Hf := hideIt (fun W => fold_walk i 6 (by decide) (by decide) W)
  have Hm := hideIt hm
  clear hm
  go_enter Tryz.func111, Tryz.ntmps111
  go_wp2_with (go_at_call 46; refine (Hf.out _).mono ?_; rintro e w' ⟨rfl, rfl⟩; rw [Hm.out])
  go_ret
  exact ⟨m, q0, q1, rfl, rfl⟩

theorem op_cells {w : World} {kb ab : Nat} (k0 : w.cell? ⟨kb, 0, none⟩ = some (.pointer (some ⟨ab, 0, none⟩))) (lk : kb < w.heap.size) (v0 v1 v2 v3 v4 v5 v6 : Value) (t : TypeId) (o : Obj) :
    ((w.alloc (.cells #[v0, v1, v2, v3, v4, v5, v6] t)).alloc o).cell? ⟨kb, 0, none⟩ = some (.pointer (some ⟨ab, 0, none⟩)) ∧ ((w.alloc (.cells #[v0, v1, v2, v3, v4, v5, v6] t)).alloc o).cell? ⟨w.heap.size, 1, none⟩ = some v1 ∧ ((w.alloc (.cells #[v0, v1, v2, v3, v4, v5, v6] t)).alloc o).cell? ⟨w.heap.size, 2, none⟩ = some v2 ∧ ((w.alloc (.cells #[v0, v1, v2, v3, v4, v5, v6] t)).alloc o).cell? ⟨w.heap.size, 3, none⟩ = some v3 := by
  have s1 : (w.alloc (.cells #[v0, v1, v2, v3, v4, v5, v6] t)).heap.size = w.heap.size + 1 := Deep.nblk_alloc _ _
  have h : ((w.alloc (.cells #[v0, v1, v2, v3, v4, v5, v6] t)).alloc o).heap[w.heap.size]? = some (.cells #[v0, v1, v2, v3, v4, v5, v6] t (0, 0)) := ((alloc_below _).block _ (by omega)).trans (heap_new _ _)
  exact ⟨((alloc_below _).cell (p := ⟨kb, 0, none⟩) (by show kb < _; omega)).trans (((alloc_below _).cell (p := ⟨kb, 0, none⟩) lk).trans k0), box_cell h 1, box_cell h 2, box_cell h 3⟩

theorem Reg.arg {X : Nat → Prop} {w w2 : World} {kb ab nb mb rb off cap m : Nat} {regs : List Int} (h : Reg X w kb ab nb mb (.slice (some ⟨rb, off, none⟩) m cap) regs) (hm : m = regs.length) (hb : Below w.heap.size w w2) :
    (∀ j u, (regs.map encI)[j]? = some u → w2.cell? ⟨rb, off + j, none⟩ = some u) ∧ (m + 1 ≤ cap → ∀ j, j < [encI 0].length → (w2.cell? ⟨rb, off + m * 1 + j, none⟩).isSome = true ∧ w2.frozen? ⟨rb, off + m * 1 + j, none⟩ = false) := by
  subst hm
  rcases h with ⟨e, _⟩ | ⟨rb', off', cap', cells, e, xr, _, hh, r1, r2, r3, r4⟩
  · cases e
  simp only [Value.slice.injEq, Option.some.injEq, Addr.mk.injEq] at e
  obtain ⟨⟨rfl, rfl, _⟩, _, rfl⟩ := e
  have hh2 := (hb.block rb (heap_lt hh)).trans hh
  refine ⟨fun j u hu => ?_, fun hr j hj => ?_⟩
  · have hj : j < regs.length := by
      by_cases q : j < regs.length
      · exact q
      · rw [List.getElem?_eq_none (by simp; omega)] at hu; cases hu
    rw [box_cell hh2, r4 j hj, ← hu]
    simp [hj]
  · have hj' : j < 1 := hj
    have hlt : off + regs.length * 1 + j < cells.size := by omega
    rw [box_cell hh2]
    exact ⟨by rw [Array.getElem?_eq_getElem hlt]; rfl, by simp [World.frozen?, hh2]⟩
theorem setCells1 (w : World) (b o m : Nat) (v : Value) : w.setCells b (o + m * 1) [v] = w.setCell ⟨b, o + m, none⟩ v := by
  simp [World.setCells]
theorem BT.roomed {w : World} {kb eb mb ab : Nat} {regs : List Int} {B0 : Nat} {X1 : Nat → Prop} {w1 w2 : World} {nb1 : Nat} {A1 : List Nd} {z : Int} {rb off cap m : Nat} (h : BT X0 AA w kb eb mb ab regs B0 X1 w1 nb1 A1) (hb : Below w1.heap.size w1 w2) (hm : m = regs.length) (hk2 : w1.cell? ⟨kb, 2, none⟩ = some (.slice (some ⟨rb, off, none⟩) m cap)) (hr : Reg X1 w1 kb ab nb1 mb (.slice (some ⟨rb, off, none⟩) m cap) regs) (hroom : m + 1 ≤ cap) (hz : Sm A1 z) :
    Hid (BT X0 AA w kb eb mb ab (regs ++ [z]) B0 X1 ((w2.setCell ⟨rb, off + m, none⟩ (encI z)).setCell ⟨kb, 2, none⟩ (.slice (some ⟨rb, off, none⟩) (m + 1) cap)) nb1 A1) := by
  subst hm
  exact h.room hb hk2 hr hroom hz
theorem BT.forgot {w : World} {kb eb mb ab : Nat} {regs : List Int} {B0 : Nat} {X1 : Nat → Prop} {nb1 : Nat} {A1 : List Nd} {z : Int} {rb off cap m : Nat} {W : World} (hm : m = regs.length) (h : BT X0 AA w kb eb mb ab (regs ++ [z]) B0 X1 (W.setCell ⟨kb, 2, none⟩ (.slice (some ⟨rb, off, none⟩) (m + 1) cap)) nb1 A1) (hn : 0 < m) (hk : ∃ u, W.cell? ⟨kb, 2, none⟩ = some u) :
    Hid (BT X0 AA w kb eb mb ab (regs ++ [z]).tail B0 X1 ((W.setCell ⟨kb, 2, none⟩ (.slice (some ⟨rb, off, none⟩) (m + 1) cap)).setCell ⟨kb, 2, none⟩ (.slice (some ⟨rb, off + 1, none⟩) m (cap - 1))) nb1 A1) := by
  subst hm
  obtain ⟨u, hu⟩ := hk
  have h1 := h.forget (rb := rb) (off := off) (cap := cap) (by rw [World.cell?_setCell_same _ _ _ hu]; simp) (by simp; omega)
  rw [show (regs ++ [z]).length - 1 = regs.length by simp] at h1
  exact h1
end Go.Proofs.Qxb6500848aGreatDoor
