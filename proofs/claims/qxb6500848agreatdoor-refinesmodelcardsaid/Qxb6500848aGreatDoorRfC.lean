/-
  The state while a question is asked.
-/
import Derived.Test.Qxb6500848aGreatDoorRfB
namespace Go.Proofs.Qxb6500848aGreatDoor
open Go.RowKit Pl Go.Maps
set_option maxRecDepth 100000

/-- Whatever an ask may turn. -/
def Ta (mb ab nb D : Nat) (b : Nat) : Prop := b = ab ∨ b = nb ∨ Own mb b ∨ b = D
structure Gz (mb ab nb D : Nat) (X : Nat → Prop) (w : World) (A : List Nd) (X' : Nat → Prop) (w' : World) (nb' : Nat) (A' : List Nd) : Prop where
  le : Le A A'
  ext : Ext w.heap.size (Ta mb ab nb D) w w'
  nbs : nb' = nb ∨ w.heap.size ≤ nb'
  sub : ∀ b, b < w.heap.size → (X' b ↔ X b)

section
variable {X X' X2 : Nat → Prop} {w w' w2 : World} {kb eb mb ab nb nb' nb2 D : Nat} {lim lim' : Int} {A A' A2 : List Nd} {regs : List Int} {ad af an : Addr}

theorem Gz.refl : Gz mb ab nb D X w A X w nb A := ⟨Le.refl _, Ext.refl _ _ _, Or.inl rfl, fun _ _ => Iff.rfl⟩
theorem Gz.of (g : GrX X w eb mb ab nb lim A X' w' nb' A') : Gz mb ab nb D X w A X' w' nb' A' := ⟨g.le, g.ext.mono (Nat.le_refl _) (fun i _ q => by
  rcases q with q | q | q
  · exact Or.inl q
  · exact Or.inr (Or.inl q)
  · exact Or.inr (Or.inr (Or.inl q))), g.nbs, g.sub⟩
theorem Gz.trans (h : Gz mb ab nb D X w A X' w' nb' A') (k : Gz mb ab nb' D X' w' A' X2 w2 nb2 A2) : Gz mb ab nb D X w A X2 w2 nb2 A2 := by
  refine ⟨h.le.trans k.le, h.ext.trans k.ext h.ext.size (fun i hi q => ?_), ?_, fun b hb => (k.sub b (Nat.lt_of_lt_of_le hb h.ext.size)).trans (h.sub b hb)⟩
  · rcases q with q | q | q
    · exact Or.inl q
    · rcases h.nbs with e | e
      · exact Or.inr (Or.inl (q.trans e))
      · omega
    · exact Or.inr (Or.inr q)
  · rcases k.nbs with e | e
    · rcases h.nbs with e2 | e2
      · exact Or.inl (e.trans e2)
      · exact Or.inr (by omega)
    · exact Or.inr (Nat.le_trans h.ext.size e)
theorem Gz.below (h : Gz mb ab nb D X w A X' w' nb' A') (k : Below w'.heap.size w' w2) : Gz mb ab nb D X w A X' w2 nb' A' := ⟨h.le, h.ext.andThen k h.ext.size, h.nbs, h.sub⟩
theorem Gz.turn (h : Gz mb ab nb D X w A X' w' nb' A') (e : Ext w'.heap.size (fun b => b = D) w' w2) : Gz mb ab nb D X w A X' w2 nb' A' := ⟨h.le, h.ext.trans e h.ext.size (fun _ _ q => Or.inr (Or.inr (Or.inr q))), h.nbs, h.sub⟩
theorem Gz.limd (h : Gz mb ab nb D X w A X' w' nb' A') (l : Int) : Gz mb ab nb D X w A X' (w'.setCell ⟨ab, 1, none⟩ (.int .i64 l)) nb' A' := ⟨h.le, h.ext.trans (setLim_ext w' ab l) h.ext.size (fun _ _ q => Or.inl q), h.nbs, h.sub⟩

theorem es_maps (h : Es X w eb mb ab nb lim A) {b : Nat} (hb : Own mb b) : IsMap w b := by
  obtain ⟨h1, h2⟩ := hb
  by_cases e : b = mb
  · rw [e]
    obtain ⟨_, _, hM, _⟩ := h.en.memo
    exact hM.isMap
  · exact h.map (by omega)
/-- A block of one's own turns. -/
theorem MD.scr (h : MD kb eb mb ab lim regs ad X w nb A) (hs : Spare w D kb ab nb mb) (hD : X D) (e : Ext w.heap.size (fun b => b = D) w w') : MD kb eb mb ab lim regs ad X w' nb A := by
  have eX : Ext w.heap.size X w w' := e.mono (Nat.le_refl _) (fun i _ q => by rw [show i = D from q]; exact hD)
  have na : ∀ {b : Nat}, ¬ X b → ¬ b = D := fun hb q => hb (by rw [q]; exact hD)
  have hA := h.mc.en.st.ar.wf
  exact ⟨h.mc.other hs hD e, h.ax.keep h.mc.en.xe eX (fun _ _ => Iff.rfl) (Le.refl _) hA hA, fun j hj => (e.cell (p := ⟨3, j, none⟩) h.lt (na h.xt)).trans (h.gd j hj), h.xt, (e.cell (p := ⟨1, 0, none⟩) (cell_lt h.gn) (na h.xn)).trans h.gn, h.xn⟩
/-- The registers' cell stays. -/
theorem GrX.kreg (g : GrX X w eb mb ab nb lim A X' w' nb' A') (h : MD kb eb mb ab lim regs ad X w nb A) : ∃ rv, w.heap[kb]? = some (.cells #[.pointer (some ⟨ab, 0, none⟩), .pointer (some ⟨eb, 0, none⟩), rv] 39 (0, 0)) ∧ w'.heap[kb]? = some (.cells #[.pointer (some ⟨ab, 0, none⟩), .pointer (some ⟨eb, 0, none⟩), rv] 39 (0, 0)) := by
  obtain ⟨rv, h1, _⟩ := h.mc.reg
  refine ⟨rv, h1, (g.ext.block kb (heap_lt h1) (fun q => ?_)).trans h1⟩
  rcases q with q | q | q
  · exact h.mc.ka q
  · exact h.mc.kn q
  · exact (es_maps h.es q).nb h1 rfl
theorem GrX.spare (g : GrX X w eb mb ab nb lim A X' w' nb' A') (h : MD kb eb mb ab lim regs ad X w nb A) (hs : Spare w D kb ab nb mb) (hl : D < w.heap.size) : Spare w' D kb ab nb' mb := by
  obtain ⟨rv, h1, h1'⟩ := g.kreg h
  refine ⟨hs.da, ?_, hs.dm, hs.dk, fun rb off n cap e => hs.dr rb off n cap ?_⟩
  · rcases g.nbs with e | e
    · rw [e]; exact hs.dn
    · omega
  · rw [box_cell h1]
    rw [box_cell h1'] at e
    exact e
/-- Block D is nobody's map. -/
theorem GrX.dblk (g : GrX X w eb mb ab nb lim A X' w' nb' A') (h : MD kb eb mb ab lim regs ad X w nb A) (hs : Spare w D kb ab nb mb) {cs : Array Value} {t : TypeId} {fr : Nat × Nat} (hc : w.heap[D]? = some (.cells cs t fr)) : w'.heap[D]? = some (.cells cs t fr) := by
  refine (g.ext.block D (heap_lt hc) (fun q => ?_)).trans hc
  rcases q with q | q | q
  · exact hs.da q
  · exact hs.dn q
  · exact (es_maps h.es q).nb hc rfl

/-- The machine, its sentinels, the closure's boxes. -/
structure AQ (kb eb mb ab : Nat) (lim : Int) (regs : List Int) (ad af an : Addr) (D bo bm br bw bp : Nat) (opc : Array Value) (r : Int) (wv pv : Value) (u p : Word) (X : Nat → Prop) (w : World) (nb : Nat) (A : List Nd) : Prop where
  md : MD kb eb mb ab lim regs ad X w nb A
  sn : Sn X w ad af an
  xd : X D
  sp : Spare w D kb ab nb mb
  res : ∃ p0 p1 p2 p3 p4, w.heap[D]? = some (.cells #[p0, p1, p2, p3, p4] 95 (0, 0))
  bo : w.heap[bo]? = some (.cells opc 31 (0, 0)) ∧ ¬ X bo
  bm : w.heap[bm]? = some (.cells #[.pointer (some ⟨kb, 0, none⟩)] 27 (0, 0)) ∧ ¬ X bm
  br : w.heap[br]? = some (.cells #[.int .i64 r] 28 (0, 0)) ∧ ¬ X br
  bw : w.heap[bw]? = some (.cells #[wv] 24 (0, 0)) ∧ ¬ X bw
  bp : w.heap[bp]? = some (.cells #[pv] 24 (0, 0)) ∧ ¬ X bp
  wu : Ints X w wv u
  wp : Ints X w pv p
  lu : u.length ≤ 5
  lp : p.length ≤ 5
  vr : Valid A r

variable {bo bm br bw bp : Nat} {opc : Array Value} {r : Int} {wv pv : Value} {u p : Word}
theorem AQ.dlt (h : AQ kb eb mb ab lim regs ad af an D bo bm br bw bp opc r wv pv u p X w nb A) : D < w.heap.size := by
  obtain ⟨_, _, _, _, _, q⟩ := h.res
  exact heap_lt q
theorem AQ.step (h : AQ kb eb mb ab lim regs ad af an D bo bm br bw bp opc r wv pv u p X w nb A) (g : GrX X w eb mb ab nb lim A X' w' nb' A') : AQ kb eb mb ab lim regs ad af an D bo bm br bw bp opc r wv pv u p X' w' nb' A' := by
  obtain ⟨p0, p1, p2, p3, p4, q⟩ := h.res
  have k : ∀ {b : Nat} {cs : Array Value} {t : TypeId}, (w.heap[b]? = some (.cells cs t (0, 0)) ∧ ¬ X b) → (w'.heap[b]? = some (.cells cs t (0, 0)) ∧ ¬ X' b) := fun e => ⟨g.block h.md.es e.1 e.2, fun x => e.2 ((g.sub _ (heap_lt e.1)).1 x)⟩
  exact ⟨h.md.step g, h.sn.step h.md.es g, (g.sub D h.dlt).2 h.xd, g.spare h.md h.sp h.dlt, ⟨p0, p1, p2, p3, p4, g.dblk h.md h.sp q⟩, k h.bo, k h.bm, k h.br, k h.bw, k h.bp, g.seq h.md.es h.wu, g.seq h.md.es h.wp, h.lu, h.lp, g.le.valid h.vr⟩
theorem AQ.below (h : AQ kb eb mb ab lim regs ad af an D bo bm br bw bp opc r wv pv u p X w nb A) (k : Below w.heap.size w w') : AQ kb eb mb ab lim regs ad af an D bo bm br bw bp opc r wv pv u p X w' nb A := h.step ((GrX.refl h.md.es).below k)
theorem AQ.turn (h : AQ kb eb mb ab lim regs ad af an D bo bm br bw bp opc r wv pv u p X w nb A) (e : Ext w.heap.size (fun b => b = D) w w') (hr : ∃ p0 p1 p2 p3 p4, w'.heap[D]? = some (.cells #[p0, p1, p2, p3, p4] 95 (0, 0))) : AQ kb eb mb ab lim regs ad af an D bo bm br bw bp opc r wv pv u p X w' nb A := by
  have k : ∀ {b : Nat} {cs : Array Value} {t : TypeId}, (w.heap[b]? = some (.cells cs t (0, 0)) ∧ ¬ X b) → (w'.heap[b]? = some (.cells cs t (0, 0)) ∧ ¬ X b) := fun q => ⟨(e.block _ (heap_lt q.1) (fun y => q.2 (by rw [show _ = D from y]; exact h.xd))).trans q.1, q.2⟩
  have hT : ∀ b, b < w.heap.size → b = D → X b := fun b _ q => by rw [q]; exact h.xd
  obtain ⟨rv, h1, _⟩ := h.md.mc.reg
  exact ⟨h.md.scr h.sp h.xd e, h.sn.ext e hT (fun _ _ => Iff.rfl), h.xd, ⟨h.sp.da, h.sp.dn, h.sp.dm, h.sp.dk, fun rb off n cap q => h.sp.dr rb off n cap ((e.cell (p := ⟨kb, 2, none⟩) (heap_lt h1) (fun y => h.sp.dk y.symm)).symm.trans q)⟩, hr, k h.bo, k h.bm, k h.br, k h.bw, k h.bp, h.wu.ext e (Nat.le_refl _) hT, h.wp.ext e (Nat.le_refl _) hT, h.lu, h.lp, h.vr⟩
theorem AQ.relim (h : AQ kb eb mb ab lim regs ad af an D bo bm br bw bp opc r wv pv u p X w nb A) (l : Int) : AQ kb eb mb ab l regs ad af an D bo bm br bw bp opc r wv pv u p X (w.setCell ⟨ab, 1, none⟩ (.int .i64 l)) nb A := by
  have e := setLim_ext w ab l
  have xa := h.md.mc.en.st.ar.xa
  have hT : ∀ b, b < w.heap.size → b = ab → X b := fun b _ q => by rw [q]; exact xa
  have k : ∀ {b : Nat} {cs : Array Value} {t : TypeId}, (w.heap[b]? = some (.cells cs t (0, 0)) ∧ ¬ X b) → ((w.setCell ⟨ab, 1, none⟩ (.int .i64 l)).heap[b]? = some (.cells cs t (0, 0)) ∧ ¬ X b) := fun q => ⟨(e.block _ (heap_lt q.1) (fun y => q.2 (by rw [show _ = ab from y]; exact xa))).trans q.1, q.2⟩
  obtain ⟨rv, h1, _⟩ := h.md.mc.reg
  obtain ⟨p0, p1, p2, p3, p4, q⟩ := h.res
  exact ⟨h.md.relim l, h.sn.ext e hT (fun _ _ => Iff.rfl), h.xd, ⟨h.sp.da, h.sp.dn, h.sp.dm, h.sp.dk, fun rb off n cap q => h.sp.dr rb off n cap ((e.cell (p := ⟨kb, 2, none⟩) (heap_lt h1) h.md.mc.ka).symm.trans q)⟩, ⟨p0, p1, p2, p3, p4, (e.block D (heap_lt q) h.sp.da).trans q⟩, k h.bo, k h.bm, k h.br, k h.bw, k h.bp, h.wu.ext e (Nat.le_refl _) hT, h.wp.ext e (Nat.le_refl _) hT, h.lu, h.lp, h.vr⟩
theorem AQ.cells (h : AQ kb eb mb ab lim regs ad af an D bo bm br bw bp opc r wv pv u p X w nb A) : w.cell? ⟨bm, 0, none⟩ = some (.pointer (some ⟨kb, 0, none⟩)) ∧ w.cell? ⟨br, 0, none⟩ = some (.int .i64 r) ∧ w.cell? ⟨bw, 0, none⟩ = some wv ∧ w.cell? ⟨bp, 0, none⟩ = some pv ∧ w.cell? ⟨kb, 0, none⟩ = some (.pointer (some ⟨ab, 0, none⟩)) ∧ w.cell? ⟨kb, 1, none⟩ = some (.pointer (some ⟨eb, 0, none⟩)) := by
  obtain ⟨rv, h1, _⟩ := h.md.mc.reg
  exact ⟨box_cell h.bm.1 0, box_cell h.br.1 0, box_cell h.bw.1 0, box_cell h.bp.1 0, box_cell h1 0, box_cell h1 1⟩
theorem AQ.rcells (h : AQ kb eb mb ab lim regs ad af an D bo bm br bw bp opc r wv pv u p X w nb A) :
    ∃ p0 p1 p2 p3 p4, (w.cell? ⟨D, 0, none⟩ = some p0 ∧ w.cell? ⟨D, 1, none⟩ = some p1 ∧ w.cell? ⟨D, 2, none⟩ = some p2 ∧ w.cell? ⟨D, 3, none⟩ = some p3 ∧ w.cell? ⟨D, 4, none⟩ = some p4) ∧ (∀ i, w.frozen? ⟨D, i, none⟩ = false) := by
  obtain ⟨p0, p1, p2, p3, p4, hr⟩ := h.res
  exact ⟨p0, p1, p2, p3, p4, ⟨box_cell hr 0, box_cell hr 1, box_cell hr 2, box_cell hr 3, box_cell hr 4⟩, fun i => by simp [World.frozen?, hr]⟩
/-- Sentinel or nothing. -/
theorem Sn.full (h : Sn X w ad af an) {lim : Int} {ev : Value} (hf : Fl lim A w ev) : ev = .iface 216 (.pointer (some af)) := by
  have := hf.2
  rw [h.gf] at this
  exact (Option.some.inj this).symm

/-- The closure's end. -/
def AskR (k ob : Int) (A : List Nd) (r : Int) (u p : Word) (v : Value) : Prop := v = fullV ∨ AskV k ob A r u p v
def AkPost (k ob : Int) (kb eb mb ab : Nat) (lim : Int) (regs : List Int) (ad af an : Addr) (D bo bm br bw bp : Nat) (opc : Array Value) (r : Int) (wv pv : Value) (u p : Word) (X : Nat → Prop) (w : World) (nb : Nat) (A : List Nd) (w' : World) : Prop :=
  ∃ X' nb' A', AQ kb eb mb ab lim regs ad af an D bo bm br bw bp opc r wv pv u p X' w' nb' A' ∧ Gz mb ab nb D X w A X' w' nb' A' ∧ ∃ v0 v1 v2 v3 v4, w'.heap[D]? = some (.cells #[v0, v1, v2, v3, v4] 95 (0, 0)) ∧ AskR k ob A' r u p (.agg #[v0, v1, v2, v3, v4])
theorem AQ.done {k ob : Int} (h : AQ kb eb mb ab lim regs ad af an D bo bm br bw bp opc r wv pv u p X' w' nb' A') (g : Gz mb ab nb D X w A X' w' nb' A') (v0 v1 v2 v3 v4 : Value) (hv : AskR k ob A' r u p (.agg #[v0, v1, v2, v3, v4])) :
    AkPost k ob kb eb mb ab lim regs ad af an D bo bm br bw bp opc r wv pv u p X w nb A (five w' D v0 v1 v2 v3 v4) := by
  obtain ⟨p0, p1, p2, p3, p4, hr⟩ := h.res
  have e := five_ext w' D v0 v1 v2 v3 v4
  have h5 := five_heap hr v0 v1 v2 v3 v4
  exact ⟨X', nb', A', h.turn e ⟨_, _, _, _, _, h5⟩, g.turn e, v0, v1, v2, v3, v4, h5, hv⟩
end
end Go.Proofs.Qxb6500848aGreatDoor
