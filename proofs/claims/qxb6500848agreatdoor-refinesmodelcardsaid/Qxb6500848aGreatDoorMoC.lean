/-
  While Step works.
-/
import Derived.Test.Qxb6500848aGreatDoorMoB
import Derived.Test.Qxb6500848aGreatDoorLoopN
import Derived.Test.Qxb6500848aGreatDoorUnionsN
namespace Go.Proofs.Qxb6500848aGreatDoor
open Go.RowKit Pl Go.Maps
set_option maxRecDepth 100000

/-- What Step turns. -/
def Tm (w : World) (hb ab nb : Nat) (b : Nat) : Prop := b = ab ∨ b = nb ∨ Th w hb b

structure SP (Y : Nat → Prop) (w : World) (hb ab nb0 : Nat) (BB : List Nd) (regs : List Int) (Y1 : Nat → Prop) (w1 : World) (nb : Nat) (B : List Nd) : Prop where
  mo : Mo Y1 w1 hb ab nb B regs
  res : ∃ p0 p1 p2 p3 p4, w1.heap[w.heap.size + 1]? = some (.cells #[p0, p1, p2, p3, p4] 95 (0, 0))
  xres : Y1 (w.heap.size + 1)
  na : w.heap.size + 1 ≠ ab
  nn : w.heap.size + 1 ≠ nb
  nh : w.heap.size + 1 ≠ hb
  nr : ∀ rb off n cap, w1.cell? ⟨hb, 1, none⟩ = some (.slice (some ⟨rb, off, none⟩) n cap) → rb ≠ w.heap.size + 1
  ext : Ext w.heap.size (Tm w hb ab nb0) w w1
  sub : ∀ b, b < w.heap.size → (Y1 b ↔ Y b)
  tn : nb = nb0 ∨ w.heap.size ≤ nb
  tr : ∀ rb off n cap, w1.cell? ⟨hb, 1, none⟩ = some (.slice (some ⟨rb, off, none⟩) n cap) → rb < w.heap.size → Th w hb rb
  le : Le BB B
  big : w.heap.size ≤ w1.heap.size

section
variable {Y Y1 Y2 : Nat → Prop} {w w1 w2 W : World} {hb ab nb0 nb nb' : Nat} {BB B B' : List Nd} {regs : List Int}

theorem SP.lt (h : SP Y w hb ab nb0 BB regs Y1 w1 nb B) : w.heap.size + 1 < w1.heap.size := by
  obtain ⟨_, _, _, _, _, q⟩ := h.res
  exact heap_lt q
theorem SP.start (h : Mo Y w hb ab nb B regs) (o : Obj) : SP Y w hb ab nb B regs (Plus' Y (w.heap.size + 1)) ((w.alloc o).alloc (.cells #[.bool false, .bool false, .bool false, .bool false, .int .i64 0] 95)) nb B := by
  have s1 : ∀ (W : World) (o : Obj), (W.alloc o).heap.size = W.heap.size + 1 := Deep.nblk_alloc
  have hbl : Below w.heap.size w ((w.alloc o).alloc (.cells #[.bool false, .bool false, .bool false, .bool false, .int .i64 0] 95)) := (alloc_below _).trans ((alloc_below _).mono (alloc_below _).size)
  have l1 := h.st.xlt _ h.st.ar.xa
  have l2 := h.st.xlt _ h.st.ar.xn
  have l3 := h.lh
  have hm : Mo (Plus' Y (w.heap.size + 1)) ((w.alloc o).alloc (.cells #[.bool false, .bool false, .bool false, .bool false, .int .i64 0] 95)) hb ab nb B regs :=
    h.keepT (Ext.of_below hbl (fun _ => False)) (fun _ _ q => q.elim) (fun b hl => ⟨fun q => q.elim id (fun e => by omega), Or.inl⟩) (fun b q => by
      rw [s1, s1]
      rcases q with q | q
      · have := h.st.xlt b q; omega
      · omega)
  obtain ⟨rv, r1, r2⟩ := h.reg
  refine ⟨hm, ⟨_, _, _, _, _, new_at _ _ (s1 _ _)⟩, Or.inr rfl, by omega, by omega, by omega, fun rb off n cap e => ?_, Ext.of_below hbl _, fun b hl => ⟨fun q => q.elim id (fun e => by omega), Or.inl⟩, Or.inl rfl, fun rb off n cap e _ => Or.inr ⟨off, n, cap, ?_⟩, Le.refl _, hbl.size⟩
  · rw [hbl.cell (p := ⟨hb, 1, none⟩) l3, box_cell r1 1] at e
    rcases r2 with ⟨p, _⟩ | ⟨rb', off', cap', cells, p, xr, _⟩
    · rw [p] at e; simp at e
    · rw [p] at e
      simp at e
      have := h.st.xlt _ xr
      omega
  · rw [← hbl.cell (p := ⟨hb, 1, none⟩) l3]; exact e
theorem SP.below (h : SP Y w hb ab nb0 BB regs Y1 w1 nb B) (k : Below w1.heap.size w1 w2) : SP Y w hb ab nb0 BB regs Y1 w2 nb B := by
  obtain ⟨p0, p1, p2, p3, p4, q⟩ := h.res
  have e := k.cell (p := ⟨hb, 1, none⟩) h.mo.lh
  exact ⟨h.mo.below k, ⟨p0, p1, p2, p3, p4, (k.block _ h.lt).trans q⟩, h.xres, h.na, h.nn, h.nh, fun rb off n cap f => h.nr rb off n cap (e.symm.trans f), h.ext.andThen k h.ext.size, h.sub, h.tn, fun rb off n cap f => h.tr rb off n cap (e.symm.trans f), h.le, Nat.le_trans h.big k.size⟩
theorem SP.made (h0 : SP Y w hb ab nb0 BB regs Y1 w1 nb B) (hW : Below w1.heap.size w1 W) (g : Grow Y1 W ab nb 65536 B Y2 w2 nb' B') : SP Y w hb ab nb0 BB regs Y2 w2 nb' B' := by
  have h := h0.below hW
  obtain ⟨p0, p1, p2, p3, p4, q⟩ := h.res
  have lt := h.lt
  have lh := h.mo.lh
  have e := g.ext.cell (p := ⟨hb, 1, none⟩) lh (fun q => q.elim h.mo.ha h.mo.hn)
  have nn' : w.heap.size + 1 ≠ nb' := by
    rcases g.nbs with r | r
    · rw [r]; exact h.nn
    · omega
  refine ⟨h.mo.grow g, ⟨p0, p1, p2, p3, p4, (g.ext.block _ lt (fun r => r.elim h.na h.nn)).trans q⟩, (g.sub _ lt).2 h.xres, h.na, nn', h.nh, fun rb off n cap f => h.nr rb off n cap (e.symm.trans f), h.ext.trans g.ext h.ext.size (fun i hi r => ?_), fun b hl => (g.sub b (by omega)).trans (h.sub b hl), ?_, fun rb off n cap f => h.tr rb off n cap (e.symm.trans f), h.le.trans g.le, Nat.le_trans h.big g.ext.size⟩
  · rcases r with r | r
    · exact Or.inl r
    · rcases h.tn with t | t
      · exact Or.inr (Or.inl (r.trans t))
      · omega
  · rcases g.nbs with r | r
    · rw [r]; exact h.tn
    · exact Or.inr (Nat.le_trans h.big r)
theorem SP.kept {R : List Int → Bool → Bool → Prop} {e : Ending} (h0 : SP Y w hb ab nb0 BB regs Y1 w1 nb B) (hW : Below w1.heap.size w1 W) (k : KpPost R Y1 W hb ab nb B e w2) :
    ∃ Y2 regs' f0 f2, e = .returned (.agg #[.bool f0, .bool false, .bool f2, .bool false, .int .i64 0]) ∧ R regs' f0 f2 ∧ regs'.length ≤ 8 ∧ SP Y w hb ab nb0 BB regs' Y2 w2 nb B := by
  have h := h0.below hW
  obtain ⟨p0, p1, p2, p3, p4, q⟩ := h.res
  obtain ⟨Y2, regs', f0, f2, k1, k2, k3, k4, k5, k6, k7⟩ := k
  have lt := h.lt
  refine ⟨Y2, regs', f0, f2, k1, k2, k4, k3, ⟨p0, p1, p2, p3, p4, (k5.block _ lt (fun r => ?_)).trans q⟩, (k6 _ lt).2 h.xres, h.na, h.nn, h.nh, fun rb off n cap f => ?_, h.ext.trans k5 h.ext.size (fun i hi r => ?_), fun b hl => (k6 b (by omega)).trans (h.sub b hl), h.tn, fun rb off n cap f hl => ?_, h.le, Nat.le_trans h.big k5.size⟩
  · rcases r with r | ⟨off, n, cap, r⟩
    · exact h.nh r
    · exact h.nr _ off n cap r rfl
  · intro q'
    rcases k7 rb off n cap f (by omega) with r | ⟨off', n', cap', r⟩
    · exact h.nh (q'.symm.trans r)
    · exact h.nr rb off' n' cap' r q'
  · rcases r with r | ⟨off, n, cap, r⟩
    · exact Or.inr (Or.inr (Or.inl r))
    · exact Or.inr (Or.inr (h.tr i off n cap r hi))
  · rcases k7 rb off n cap f (by omega) with r | ⟨off', n', cap', r⟩
    · exact Or.inl r
    · exact h.tr rb off' n' cap' r hl
theorem SP.rcells (h : SP Y w hb ab nb0 BB regs Y1 w1 nb B) :
    ∃ p0 p1 p2 p3 p4, (w1.cell? ⟨w.heap.size + 1, 0, none⟩ = some p0 ∧ w1.cell? ⟨w.heap.size + 1, 1, none⟩ = some p1 ∧ w1.cell? ⟨w.heap.size + 1, 2, none⟩ = some p2 ∧ w1.cell? ⟨w.heap.size + 1, 3, none⟩ = some p3 ∧ w1.cell? ⟨w.heap.size + 1, 4, none⟩ = some p4) ∧ (∀ i, w1.frozen? ⟨w.heap.size + 1, i, none⟩ = false) := by
  obtain ⟨p0, p1, p2, p3, p4, hr⟩ := h.res
  exact ⟨p0, p1, p2, p3, p4, ⟨box_cell hr 0, box_cell hr 1, box_cell hr 2, box_cell hr 3, box_cell hr 4⟩, fun i => by simp [World.frozen?, hr]⟩

/-- The registers. -/
theorem SP.regAt (h : SP Y w hb ab nb0 BB regs Y1 w1 nb B) (hne : 0 < regs.length) : ∃ rb off cap, w1.cell? ⟨hb, 1, none⟩ = some (.slice (some ⟨rb, off, none⟩) regs.length cap) ∧ ∀ i : Int, w1.cell? ⟨rb, off + (i % (regs.length : Int)).toNat, none⟩ = some (.int .i64 (rg regs i)) ∧ Sm B (rg regs i) := by
  obtain ⟨rv, _, h1, h2⟩ := h.mo.cells
  rcases h2 with ⟨_, e⟩ | ⟨rb, off, cap, cells, e, _, _, hh, _, _, _, hc⟩
  · rw [e] at hne; cases hne
  refine ⟨rb, off, cap, by rw [h1, e], fun i => ?_⟩
  have q0 : 0 ≤ i % (regs.length : Int) := Int.emod_nonneg _ (by omega)
  have q1 : i % (regs.length : Int) < (regs.length : Int) := Int.emod_lt_of_pos _ (by omega)
  have hj : (i % (regs.length : Int)).toNat < regs.length := by omega
  unfold rg
  rw [getD_lt hj]
  exact ⟨(box_cell hh _).trans (hc _ hj), h.mo.val _ (List.getElem_mem hj)⟩

/-- Step's end. -/
def StPost (R : List Nd → List Int → Value → Prop) (Y : Nat → Prop) (w : World) (hb ab nb : Nat) (BB : List Nd) (e : Ending) (w' : World) : Prop :=
  ∃ Y' nb' B' regs' v, e = .returned v ∧ R B' regs' v ∧ Mo Y' w' hb ab nb' B' regs' ∧ regs'.length ≤ 8 ∧ Ext w.heap.size (Tm w hb ab nb) w w' ∧ (∀ b, b < w.heap.size → (Y' b ↔ Y b)) ∧ Le BB B' ∧ (nb' = nb ∨ w.heap.size ≤ nb') ∧ ∀ rb off n cap, w'.cell? ⟨hb, 1, none⟩ = some (.slice (some ⟨rb, off, none⟩) n cap) → rb < w.heap.size → Th w hb rb
theorem SP.done {R : List Nd → List Int → Value → Prop} (h : SP Y w hb ab nb0 BB regs Y1 w1 nb B) (hl : regs.length ≤ 8) (v0 v1 v2 v3 v4 : Value) (hR : R B regs (.agg #[v0, v1, v2, v3, v4])) :
    StPost R Y w hb ab nb0 BB (.returned (.agg #[v0, v1, v2, v3, v4])) (five w1 (w.heap.size + 1) v0 v1 v2 v3 v4) ∧ (five w1 (w.heap.size + 1) v0 v1 v2 v3 v4).heap[w.heap.size + 1]? = some (.cells #[v0, v1, v2, v3, v4] 95 (0, 0)) := by
  obtain ⟨p0, p1, p2, p3, p4, hr⟩ := h.res
  have e := five_ext w1 (w.heap.size + 1) v0 v1 v2 v3 v4
  refine ⟨⟨Y1, nb, B, regs, _, rfl, hR, h.mo.keepT e (fun b hb q => ?_) (fun _ _ => Iff.rfl) (fun b hb => Nat.lt_of_lt_of_le (h.mo.st.xlt b hb) e.size), hl, h.ext.trans e h.ext.size (fun i hi q => by omega), h.sub, h.le, h.tn, fun rb off n cap f => h.tr rb off n cap ((e.cell (p := ⟨hb, 1, none⟩) h.mo.lh (fun q => h.nh q.symm)).symm.trans f)⟩, five_heap hr _ _ _ _ _⟩
  have q' : b = w.heap.size + 1 := q
  subst q'
  exact ⟨h.xres, h.na, h.nn, h.nh, fun off n cap f => h.nr _ off n cap f rfl⟩

/-! ### what the model's step makes -/
def Mz (k oa ob oc : Int) (B : List Nd) (regs : List Int) (B' : List Nd) (z : Int) : Prop :=
  if k = 8 then ∃ B1 c, Le B B1 ∧ Wf B1 ∧ Le B1 B' ∧ Val B1 (compN B (rg regs ob)) c ∧ Add B B1 (compN B (rg regs ob)) ∧ Val B' (interN B1 [rg regs oa, c]) z ∧ Add B1 B' (interN B1 [rg regs oa, c])
  else Val B' (nfK k oa ob oc B regs) z ∧ Add B B' (nfK k oa ob oc B regs)
def Mf (k oa ob oc : Int) (B : List Nd) (regs : List Int) (B' : List Nd) : Prop :=
  (65536 : Int) ≤ B'.length ∧ if k = 8 then (B' = B ∧ NoVal B (compN B (rg regs ob))) ∨ ∃ c, Le B B' ∧ Wf B' ∧ Val B' (compN B (rg regs ob)) c ∧ Add B B' (compN B (rg regs ob)) ∧ NoVal B' (interN B' [rg regs oa, c])
  else B' = B ∧ NoVal B (nfK k oa ob oc B regs)
def Mend (k oa ob oc : Int) (B : List Nd) (regs : List Int) (B' : List Nd) (regs' : List Int) (v : Value) : Prop :=
  ∃ f0 f2 : Bool, v = .agg #[.bool f0, .bool false, .bool f2, .bool false, .int .i64 0] ∧ ((f2 = true ∧ f0 = false ∧ regs' = regs ∧ Mf k oa ob oc B regs B') ∨ (f2 = false ∧ ∃ z, Mz k oa ob oc B regs B' z ∧ ((sz B' z ≤ 18 ∧ f0 = true ∧ regs' = push regs z) ∨ (18 < sz B' z ∧ f0 = false ∧ regs' = regs))))
theorem Mend.ok {k oa ob oc : Int} {B B' : List Nd} {regs regs' : List Int} {z : Int} {f0 f2 : Bool} (h : Kend B' z regs regs' f0 f2) (hz : Mz k oa ob oc B regs B' z) : Mend k oa ob oc B regs B' regs' (.agg #[.bool f0, .bool false, .bool f2, .bool false, .int .i64 0]) :=
  ⟨f0, f2, rfl, Or.inr ⟨h.1, z, hz, h.2⟩⟩
theorem Mend.bad {k oa ob oc : Int} {B B' : List Nd} {regs regs' : List Int} {f0 f2 : Bool} (h : f2 = true ∧ f0 = false ∧ regs' = regs) (hz : Mf k oa ob oc B regs B') : Mend k oa ob oc B regs B' regs' (.agg #[.bool f0, .bool false, .bool f2, .bool false, .int .i64 0]) :=
  ⟨f0, f2, rfl, Or.inl ⟨h.1, h.2.1, h.2.2, hz⟩⟩
end
end Go.Proofs.Qxb6500848aGreatDoor
