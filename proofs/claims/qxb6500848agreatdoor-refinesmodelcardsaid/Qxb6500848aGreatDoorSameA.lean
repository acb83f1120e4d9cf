/-
  SameMintermSameDerivative: what the check keeps.
-/
import Derived.Test.Qxb6500848aGreatDoorEdgeW
import Derived.Test.Qxb6500848aGreatDoorMaxW
import Derived.Test.Qxb6500848aGreatDoorIs
namespace Go.Proofs.Qxb6500848aGreatDoor
open Go.RowKit Pl Go.Maps
set_option maxRecDepth 100000

def SPost (X : Nat → Prop) (w : World) (eb mb ab nb : Nat) (lim : Int) (A : List Nd) (e : Ending) (w' : World) : Prop :=
  ∃ X' nb' A' b, GrX X w eb mb ab nb lim A X' w' nb' A' ∧ e = .returned (.bool b) ∧ (b = false → lim ≤ A'.length)

/-- What is known from the start. -/
structure SC (kb eb mb ab : Nat) (lim : Int) (regs : List Int) (xb : Nat) (cv : Value) (cs : List Int) (ad : Addr) (X : Nat → Prop) (w : World) (nb : Nat) (A : List Nd) : Prop where
  mc : Mc X w kb eb mb ab nb lim A regs
  ax : Ax X w eb mb A
  gd : Gd tabC w
  xt : ¬ X 3
  gn : Gn w ad
  xn : ¬ X 0
  ch : w.cell? ⟨xb, 0, none⟩ = some cv
  nx : ¬ X xb
  ci : Ints X w cv cs

theorem SC.es {kb eb mb ab : Nat} {lim : Int} {regs : List Int} {xb : Nat} {cv : Value} {cs : List Int} {ad : Addr} {X : Nat → Prop} {w : World} {nb : Nat} {A : List Nd} (h : SC kb eb mb ab lim regs xb cv cs ad X w nb A) : Es X w eb mb ab nb lim A := ⟨h.mc.en, h.ax⟩
theorem SC.lt {kb eb mb ab : Nat} {lim : Int} {regs : List Int} {xb : Nat} {cv : Value} {cs : List Int} {ad : Addr} {X : Nat → Prop} {w : World} {nb : Nat} {A : List Nd} (h : SC kb eb mb ab lim regs xb cv cs ad X w nb A) : 3 < w.heap.size := cell_lt (h.gd 0 (by omega))
theorem SC.step {kb eb mb ab : Nat} {lim : Int} {regs : List Int} {xb : Nat} {cv : Value} {cs : List Int} {ad : Addr} {X X' : Nat → Prop} {w w' : World} {nb nb' : Nat} {A A' : List Nd} (h : SC kb eb mb ab lim regs xb cv cs ad X w nb A) (g : GrX X w eb mb ab nb lim A X' w' nb' A') : SC kb eb mb ab lim regs xb cv cs ad X' w' nb' A' :=
  ⟨h.mc.growX h.ax g, g.ax, fun j hj => g.cell h.es (h.gd j hj) h.xt, fun x => h.xt ((g.sub _ h.lt).1 x), g.cell h.es h.gn h.xn, fun x => h.xn ((g.sub _ (cell_lt h.gn)).1 x), g.cell h.es h.ch h.nx, fun x => h.nx ((g.sub _ (cell_lt h.ch)).1 x), g.seq h.es h.ci⟩
theorem SC.below {kb eb mb ab : Nat} {lim : Int} {regs : List Int} {xb : Nat} {cv : Value} {cs : List Int} {ad : Addr} {X : Nat → Prop} {w w' : World} {nb : Nat} {A : List Nd} (h : SC kb eb mb ab lim regs xb cv cs ad X w nb A) (k : Below w.heap.size w w') : SC kb eb mb ab lim regs xb cv cs ad X w' nb A :=
  h.step ((GrX.refl h.es).below k)

/-- What the loops keep besides: the derived state r, its minterms, its cut, its edges. -/
structure SK (kb eb mb ab : Nat) (lim : Int) (regs : List Int) (xb : Nat) (cv : Value) (cs : List Int) (ad : Addr) (r : Int) (P : List (List Nat)) (bv : Value) (tb D : Nat) (es : List (Int × Int × Int)) (X : Nat → Prop) (w : World) (nb : Nat) (A : List Nd) : Prop where
  sc : SC kb eb mb ab lim regs xb cv cs ad X w nb A
  val : Valid A r
  bs : Sets X w bv P
  ct : CutAt X w tb P
  ed : E3 w D P.length es
  nd : ¬ X D
  ic : IsCut tabC A r P
  ie : IsEdges A r P es P.length

theorem SK.step {kb eb mb ab : Nat} {lim : Int} {regs : List Int} {xb : Nat} {cv : Value} {cs : List Int} {ad : Addr} {r : Int} {P : List (List Nat)} {bv : Value} {tb D : Nat} {es : List (Int × Int × Int)} {X X' : Nat → Prop} {w w' : World} {nb nb' : Nat} {A A' : List Nd} (h : SK kb eb mb ab lim regs xb cv cs ad r P bv tb D es X w nb A) (g : GrX X w eb mb ab nb lim A X' w' nb' A') : SK kb eb mb ab lim regs xb cv cs ad r P bv tb D es X' w' nb' A' := by
  have hE := h.sc.es
  have lD := h.ed.lt
  refine ⟨h.sc.step g, g.le.valid h.val, g.sets hE h.bs, g.cut hE h.ct, ?_, fun x => h.nd ((g.sub D lD).1 x), h.ic.le hE.en.st.ar.wf g.le h.val, h.ie.le hE.en.st.ar.wf g.en.st.ar.wf g.le h.val⟩
  obtain ⟨c, q1, q2⟩ := h.ed
  exact ⟨c, g.block hE q1 h.nd, q2⟩
theorem SK.below {kb eb mb ab : Nat} {lim : Int} {regs : List Int} {xb : Nat} {cv : Value} {cs : List Int} {ad : Addr} {r : Int} {P : List (List Nat)} {bv : Value} {tb D : Nat} {es : List (Int × Int × Int)} {X : Nat → Prop} {w w' : World} {nb : Nat} {A : List Nd} (h : SK kb eb mb ab lim regs xb cv cs ad r P bv tb D es X w nb A) (k : Below w.heap.size w w') : SK kb eb mb ab lim regs xb cv cs ad r P bv tb D es X w' nb A :=
  h.step ((GrX.refl h.sc.es).below k)

/-- Two blocks that hold c are one. -/
theorem Pl.IsCut.one {A : List Nd} {r : Int} {P : List (List Nat)} (h : IsCut tabC A r P) {i j : Nat} (hi : i < P.length) (hj : j < P.length) {c : Int} (h1 : hasC P[i] c = true) (h2 : hasC P[j] c = true) : i = j := by
  obtain ⟨F, _, _, hC⟩ := h
  have hp := List.pairwise_iff_getElem.1 hC.mt.apart
  by_cases e : i < j
  · exact (hp i j hi hj e c h1 h2).elim
  · by_cases e2 : j < i
    · exact (hp j i hj hi e2 c h2 h1).elim
    · omega
theorem Pl.IsCut.cl {A : List Nd} {r : Int} {P : List (List Nat)} (h : IsCut tabC A r P) {j : Nat} (hj : j < P.length) : Cl P[j] ∧ ∃ b ∈ P[j], b ≠ 0 := by
  obtain ⟨F, _, _, hC⟩ := h
  have hg := hC.mt.good _ (List.getElem_mem hj)
  exact ⟨hg.1, cnt_pos ((cnt_has hg.1).2 hg.2)⟩

/-- Any derivative by a member of block j is the derivative by its representative. -/
theorem Pl.IsCut.same_der {A : List Nd} (hA : Wf A) {r : Int} (hr : Valid A r) {P : List (List Nat)} (h : IsCut tabC A r P) {j : Nat} (hj : j < P.length) {c : Int} (hc : hasC P[j] c = true) {z d : Int} (hz : Der A (minF tabC P[j]) r z) (hd : Der A c r d) : d = z :=
  ((hd.agree hA hr (h.agree (List.getElem_mem hj) hc (h.rep hj).2)).uniq hA hz)

theorem Sets.shape {X : Nat → Prop} {w : World} {v : Value} {F : List (List Nat)} (h : Sets X w v F) : ∃ (a : Option Addr) (c : Nat) (vs : List Value), v = .slice a F.length c ∧ vs.length = F.length ∧ (F ≠ [] → ∃ g o, a = some ⟨g, o, none⟩ ∧ ∀ j (h : j < vs.length), w.cell? ⟨g, o + j, none⟩ = some vs[j]) ∧ ∀ i (h : i < vs.length) (h' : i < F.length), Words X w vs[i] F[i] := by
  obtain ⟨vs, h1, ⟨a, c, rfl, _, _, h4⟩, h5⟩ := h
  refine ⟨a, c, vs, by rw [h1], h1, fun hF => ?_, h5⟩
  obtain ⟨g, o, rfl, _, hc⟩ := h4 (fun e => hF (List.length_eq_zero_iff.1 (by rw [← h1, e]; rfl)))
  exact ⟨g, o, rfl, hc⟩

/-- What the loops read at place k. -/
theorem SK.at {kb eb mb ab : Nat} {lim : Int} {regs : List Int} {xb : Nat} {cv : Value} {cs : List Int} {ad : Addr} {r : Int} {P : List (List Nat)} {a : Option Addr} {c tb D : Nat} {es : List (Int × Int × Int)} {X : Nat → Prop} {w : World} {nb : Nat} {A : List Nd} (h : SK kb eb mb ab lim regs xb cv cs ad r P (.slice a P.length c) tb D es X w nb A) {k : Nat} (hk : k < P.length) :
    ∃ g o pv, a = some ⟨g, o, none⟩ ∧ w.cell? ⟨g, o + k, none⟩ = some pv ∧ Words X w pv P[k] := by
  obtain ⟨a', c', vs, e, h1, h2, h3⟩ := h.bs.shape
  simp only [Value.slice.injEq] at e
  obtain ⟨rfl, _, rfl⟩ := e
  obtain ⟨g, o, rfl, hc⟩ := h2 (fun e => by rw [e] at hk; cases hk)
  exact ⟨g, o, vs[k], rfl, hc k (by omega), h3 k (by omega) hk⟩

/-- What they read of the cut at place k. -/
theorem Pl.CutAt_at {X : Nat → Prop} {w : World} {tb : Nat} {P : List (List Nat)} (h : CutAt X w tb P) {k : Nat} (hk : k < P.length) :
    ∃ bg bo bc rg ro rc pv, w.cell? ⟨tb, 0, none⟩ = some (.slice (some ⟨bg, bo, none⟩) P.length bc) ∧ w.cell? ⟨tb, 1, none⟩ = some (.slice (some ⟨rg, ro, none⟩) P.length rc) ∧ w.cell? ⟨bg, bo + k, none⟩ = some pv ∧ Words X w pv P[k] ∧ w.cell? ⟨rg, ro + k, none⟩ = some (.int .i64 (minF tabC P[k])) := by
  obtain ⟨ba, bc, ra, rc, vs, c0, c1, hvl, ⟨a1, c1', e1, _, _, q1⟩, hW, ⟨a2, c2, e2, _, _, q2⟩⟩ := h.cells
  simp only [Value.slice.injEq] at e1 e2
  obtain ⟨rfl, _, rfl⟩ := e1
  obtain ⟨rfl, _, rfl⟩ := e2
  have hkm : k < (P.map (minF tabC)).length := by simpa using hk
  obtain ⟨bg, bo, rfl, _, h1⟩ := q1 (fun e => by rw [e] at hvl; simp at hvl; omega)
  obtain ⟨rg, ro, rfl, _, h2⟩ := q2 (fun e => by rw [e] at hkm; cases hkm)
  refine ⟨bg, bo, bc, rg, ro, rc, vs[k]'(by omega), c0, c1, h1 k (by omega), hW k (by omega) hk, ?_⟩
  have := h2 k hkm
  rw [List.getElem_map] at this
  exact this

theorem own_two {W : World} {b base : Nat} {t : TypeId} {u1 u2 : Value} (h : W.heap[b]? = some (.cells #[u1, u2] t (0, 0))) (hb : base ≤ b) : W.ownsRow base t 1 (.slice (some ⟨b, 0, none⟩) 2 2) 2 [u1, u2] :=
  ⟨by simp, Or.inr ⟨b, 2, _, rfl, hb, h, by simp, by simp [maxLen], by simp, by simp⟩⟩
theorem chars_news {X : Nat → Prop} {w W : World} {cs : List Int} {cg co cc : Nat} (h : Ints X w (.slice (some ⟨cg, co, none⟩) cs.length cc) cs) (hp : 1 ≤ cs.length) (hb : Below w.heap.size w W) : ∀ j u, (cs.map encI)[j]? = some u → W.cell? ((⟨cg, co, none⟩ : Addr).add j) = some u := by
  obtain ⟨ad, cap, e, _, _, h3⟩ := h.below hb (Nat.le_refl _)
  simp only [Value.slice.injEq] at e
  obtain ⟨g, o, e2, _, hc⟩ := h3 (fun e => by rw [e] at hp; simp at hp)
  rw [e2] at e
  obtain ⟨e3, _, _⟩ := e
  cases e3
  exact ints_news hc
theorem cand_own {X : Nat → Prop} {w W w9 : World} {g cap : Nat} {cs : List Int} {a b : Int} (hown : w9.ownsRow w.heap.size 3 1 (.slice (some ⟨g, 0, none⟩) (2 + cs.length) cap) (2 + cs.length) ([.int .i64 a, .int .i64 b] ++ cs.map encI)) (hgrow : W.grownBy w9 (some w.heap.size)) (hW : Below w.heap.size w W) (hX : ∀ z, X z → z < w.heap.size) :
    Ints X w9 (.slice (some ⟨g, 0, none⟩) (2 + cs.length) cap) ([a, b] ++ cs) ∧ Below w.heap.size w w9 := by
  have e : ([a, b] ++ cs).length = 2 + cs.length := by simp; omega
  have h1 : w9.ownsRow w.heap.size 3 1 (.slice (some ⟨g, 0, none⟩) (2 + cs.length) cap) ([a, b] ++ cs).length (([a, b] ++ cs).map encI) := by
    rw [e, List.map_append]; exact hown
  exact ⟨(own_intsT h1).1.more (fun b _ x => hX b x), hW.grown hgrow hW.size (fun k e => by cases e; exact Nat.le_refl _)⟩

theorem below_push {w W : World} {o : Obj} (h0 : W.os = w.os) (h1 : W.tape = w.tape) (h2 : W.output = w.output) (h3 : W.heap = (w.alloc o).heap) : Below w.heap.size w W := by
  have := alloc_below (w := w) o
  exact ⟨h0, h1, h2, by rw [h3]; exact this.size, fun k hk => by rw [h3]; exact this.block k hk⟩
end Go.Proofs.Qxb6500848aGreatDoor
