/-
  DerivWord, DerivBlock, Edges.
-/
import Derived.Test.Qxb6500848aGreatDoorCutW
namespace Go.Proofs.Qxb6500848aGreatDoor
open Go.RowKit Pl Go.Maps
set_option maxRecDepth 100000

/-- z is the quotient of x by the word wd. -/
def QuotW (A : List Nd) (wd : Word) (x z : Int) : Prop := ∀ u, (Alph u ∧ lang A z u) ↔ (Alph (wd ++ u) ∧ lang A x (wd ++ u))

def DwPost (wd : Word) (x : Int) (X : Nat → Prop) (w : World) (eb mb ab nb : Nat) (lim : Int) (A : List Nd) (e : Ending) (w' : World) : Prop :=
  ∃ X' nb' A' z ev, GrE X w eb mb ab nb lim A X' w' nb' A' ∧ e = .returned (.tuple #[.int .i64 z, ev]) ∧ ((ev = .nilIface ∧ Valid A' z ∧ QuotW A' wd x z) ∨ ((∃ t v, ev = .iface t v) ∧ z = 0 ∧ Fl lim A' w' ev))

set_option maxHeartbeats 4000000 in
theorem DerivWord_walk {eb mb ab : Nat} {lim : Int} (hlim : lim ≤ 65536) {x : Int} {X : Nat → Prop} {w : World} {nb : Nat} {A : List Nd} (hE : En X w eb mb ab nb lim A) (hx : Valid A x) {wv : Value} {wd : Word} (hw : Ints X w wv wd) (hwl : wd.length ≤ 65536) :
    Calls Tryz.prog 14 #[.pointer (some ⟨eb, 0, none⟩), .int .i64 x, wv] w (DwPost wd x X w eb mb ab nb lim A) := by
  have HE := hideIt hE
  have Hx := hideIt hx
  have Hw := hideIt hw
  obtain ⟨wa, wc, rfl, _, _, _⟩ := hw
  clear hE hx
  go_enter Tryz.func14, Tryz.ntmps14
  go_wp2_with fail
  go_loopw [1, 14] (fun rv i wr => ∃ (k : Nat) (z : Int) (X' : Nat → Prop) (nb' : Nat) (A' : List Nd), k ≤ wd.length ∧ i = .int .i64 k ∧ rv = .int .i64 z ∧ GrE X w eb mb ab nb lim A X' wr nb' A' ∧ Valid A' z ∧ QuotW A' (wd.take k) x z) (fun _ i _ => wd.length - (intOf i).toNat)
  case atStart => exact ⟨0, x, X, nb, A, by omega, rfl, rfl, GrE.refl HE.out, Hx.out, fun u => by simp⟩
  case round =>
    obtain ⟨k, z, X', nb', A', hk, rfl, rfl, hG, hz, hQ⟩ := hrel
    by_cases hlt : k < wd.length
    · have hlt' : (k : Int) < (wd.length : Int) := by omega
      obtain ⟨ad, cap', e, _, _, h3⟩ := hG.seq HE.out Hw.out
      cases e
      obtain ⟨g, o, rfl, _, hc⟩ := h3 (fun e => by rw [e] at hlt; cases hlt)
      have cu := hc k hlt
      have Hnx : Hid (wd.take (k + 1) = wd.take k ++ [wd[k]]) := List.take_succ_eq_append_getElem hlt
      generalize wd[k] = c at *
      have HG := hideIt hG
      have Hz := hideIt hz
      have HQ := hideIt hQ
      clear h3 hc hG hz hQ
      go_wp2_with fail
      go_at_call 25
      refine (Deriv_walk hlim HG.out.en Hz.out).mono ?_
      rintro e w1 ⟨X1, nb1, A1, z1, ev1, hg1, rfl, hh1⟩
      have HG1 := hideIt hg1
      clear hg1
      rcases hh1 with ⟨rfl, hz1, hq1, _⟩ | ⟨⟨t1, v1, rfl⟩, rfl, hf1⟩
      · have HQ1 : Hid (QuotW A1 (wd.take (k + 1)) x z1) := fun u => by
          have hv1 := HG.out.le.valid Hx.out
          have e1 : lang A1 z = lang A' z := HG1.out.le.lang HG.out.en.st.ar.wf HG1.out.en.st.ar.wf Hz.out
          have e2 : lang A1 x = lang A' x := HG1.out.le.lang HG.out.en.st.ar.wf HG1.out.en.st.ar.wf hv1
          rw [hq1 u, Hnx.out, e1, HQ.out (c :: u), e2]
          simp
        clear hq1
        go_wp2_with fail
        go_roundw
        case rel => exact ⟨k + 1, z1, X1, nb1, A1, by omega, by go_num, rfl, HG.out.trans HG1.out, hz1, HQ1.out⟩
        case measure => simp [intOf]; omega
      · go_wp2_with fail
        go_ret2
        exact ⟨X1, nb1, A1, 0, _, HG.out.trans HG1.out, rfl, Or.inr ⟨⟨t1, v1, rfl⟩, rfl, hf1⟩⟩
    · obtain rfl : k = wd.length := by omega
      rw [List.take_length] at hQ
      have HG := hideIt hG
      have HQ := hideIt hQ
      clear hG hQ
      go_wp2_with fail
      go_ret2
      exact ⟨X', nb', A', z, _, HG.out, rfl, Or.inl ⟨rfl, hz, HQ.out⟩⟩

/-- ErrNoBlock. -/
def Gn (w : World) (ad : Addr) : Prop := w.cell? ⟨0, 0, none⟩ = some (.iface 216 (.pointer (some ad)))

/-- The representative numbered j lies in the alphabet. -/
theorem Pl.IsCut.rep {A : List Nd} {r : Int} {P : List (List Nat)} (h : IsCut tabC A r P) {j : Nat} (hj : j < P.length) : (0 ≤ minF tabC P[j] ∧ minF tabC P[j] ≤ 196607) ∧ hasC P[j] (minF tabC P[j]) = true := by
  obtain ⟨F, _, _, hC⟩ := h
  have hg := hC.mt.good _ (List.getElem_mem hj)
  have := min_has tabC_ok hg.1 hg.2
  exact ⟨hasC_alph this, this⟩

def BkPost (r : Int) (P : List (List Nat)) (j : Int) (ad : Addr) (X : Nat → Prop) (w : World) (eb mb ab nb : Nat) (lim : Int) (A : List Nd) (e : Ending) (w' : World) : Prop :=
  ∃ X' nb' A' z ev, GrX X w eb mb ab nb lim A X' w' nb' A' ∧ e = .returned (.tuple #[.int .i64 z, ev]) ∧
    ((j < 0 ∨ (P.length : Int) ≤ j) ∧ ev = .iface 216 (.pointer (some ad)) ∨
     (0 ≤ j ∧ j < (P.length : Int)) ∧ ((ev = .nilIface ∧ Valid A' z ∧ Der A' (minF tabC (P.getD j.toNat [])) r z) ∨ ((∃ t v, ev = .iface t v) ∧ z = 0 ∧ Fl lim A' w' ev)))

set_option maxHeartbeats 4000000 in
theorem DerivBlock_walk {X : Nat → Prop} {w : World} {eb mb ab nb : Nat} {lim : Int} (hlim : lim ≤ 65536) {A : List Nd} (hE : Es X w eb mb ab nb lim A) (hg : Gd tabC w) (hw0 : 3 < w.heap.size) {ad : Addr} (hn : Gn w ad) (xn : ¬ X 0) {r : Int} (hr : Valid A r) {P : List (List Nat)} (hP : IsCut tabC A r P) (j : Int) :
    Calls Tryz.prog 20 #[.pointer (some ⟨eb, 0, none⟩), .int .i64 r, .int .i64 j] w (BkPost r P j ad X w eb mb ab nb lim A) := by
  have HE := hideIt hE
  have Hg := hideIt hg
  have Hr := hideIt hr
  have HP := hideIt hP
  have Hn : Hid (Gn w ad) := hn
  have Hxn := hideIt xn
  have Hw0 := hideIt hw0
  clear hE hg hr hP hn xn hw0
  go_enter Tryz.func20, Tryz.ntmps20
  go_wp2_with fail
  go_at_call 18
  refine (Cut_walk HE.out Hg.out Hw0.out Hr.out).mono ?_
  rintro e w1 ⟨tb, P', rfl, hc, hi, hl, hgr⟩
  obtain rfl := hi.uniq HP.out
  obtain ⟨ba, bc, ra, rc, vs, c0, c1, hvl, hS, hW, hR⟩ := hc.cells
  have Hgr := hideIt hgr
  have HR := hideIt hR
  have hn1 : w1.cell? ⟨0, 0, none⟩ = some (.iface 216 (.pointer (some ad))) := hgr.cell HE.out Hn.out Hxn.out
  clear hi hgr hS hW hR hc
  by_cases h0 : j < 0
  · go_wp2_with fail
    go_region
    go_wp2_with fail
    go_ret2
    exact ⟨X, nb, A, 0, _, Hgr.out.below (below_d _), rfl, Or.inl ⟨Or.inl h0, rfl⟩⟩
  · by_cases h1 : (P'.length : Int) ≤ j
    · go_wp2_with fail
      go_region
      go_wp2_with fail
      go_ret2
      exact ⟨X, nb, A, 0, _, Hgr.out.below (below_d _), rfl, Or.inl ⟨Or.inr h1, rfl⟩⟩
    · have h0' : 0 ≤ j := by omega
      have h1' : j < (P'.length : Int) := by omega
      have hj : j.toNat < P'.length := by omega
      obtain ⟨ad', cap', e, _, _, h3⟩ := HR.out
      simp only [Value.slice.injEq] at e
      obtain ⟨rfl, el, rfl⟩ := e
      clear el
      have hjm : j.toNat < (P'.map (minF tabC)).length := by simpa using hj
      obtain ⟨g, o, rfl, _, hcc⟩ := h3 (fun e => by rw [e] at hjm; cases hjm)
      have cu := hcc j.toNat hjm
      have hrep := HP.out.rep hj
      have Heg : Hid (P'.getD j.toNat [] = P'[j.toNat]) := getD_lt hj _
      rw [List.getElem_map] at cu
      have Hrep := hideIt hrep
      generalize P'[j.toNat] = p at *
      generalize hmn : minF tabC p = mn at *
      have Hmn := hideIt hmn
      clear h3 hcc hrep hmn
      go_wp2_with (go_at_call 75; refine (deriv_walk Hrep.out.1 hlim _ r rfl X _ nb A Hgr.out.en Hr.out).mono ?_; rintro e w2 ⟨X1, nb1, A1, z1, ev1, hg1, rfl, hh1⟩)
      go_ret2
      refine ⟨X1, nb1, A1, z1, ev1, Hgr.out.trans (hg1.toX Hgr.out.es), rfl, Or.inr ⟨⟨h0', h1'⟩, ?_⟩⟩
      rw [Heg.out, Hmn.out]
      exact hh1.imp (fun h => ⟨h.1, h.2.valid hg1.en.st.ar.wf (hg1.le.valid Hr.out), h.2⟩) id

/-! ### rows of edges -/
def E3 (w : World) (D n : Nat) (es : List (Int × Int × Int)) : Prop :=
  ∃ c : Array Value, w.heap[D]? = some (.cells c 58 (0, 0)) ∧ c.size = n * 3 ∧ ∀ j (h : j < es.length), c[j * 3]? = some (.int .i64 es[j].1) ∧ c[j * 3 + 1]? = some (.int .i64 es[j].2.1) ∧ c[j * 3 + 2]? = some (.int .i64 es[j].2.2)

theorem E3.cell {w : World} {D n : Nat} {es : List (Int × Int × Int)} (h : E3 w D n es) {j : Nat} (hj : j < es.length) : w.cell? ⟨D, j * 3, none⟩ = some (.int .i64 es[j].1) ∧ w.cell? ⟨D, j * 3 + 1, none⟩ = some (.int .i64 es[j].2.1) ∧ w.cell? ⟨D, j * 3 + 2, none⟩ = some (.int .i64 es[j].2.2) := by
  obtain ⟨c, h1, h2, h3⟩ := h
  rw [box_cell h1, box_cell h1, box_cell h1]
  exact h3 j hj
theorem E3.lt {w : World} {D n : Nat} {es : List (Int × Int × Int)} (h : E3 w D n es) : D < w.heap.size := by
  obtain ⟨c, h1, _⟩ := h
  exact heap_lt h1
theorem E3.of_block {w w' : World} {D n : Nat} {es : List (Int × Int × Int)} (h : E3 w D n es) (e : w'.heap[D]? = w.heap[D]?) : E3 w' D n es := by
  obtain ⟨c, h1, h2⟩ := h
  exact ⟨c, e.trans h1, h2⟩
theorem E3.put {w : World} {D n : Nat} {es : List (Int × Int × Int)} (h : E3 w D n es) (hn : es.length < n) (a b c : Int) : E3 (((w.setCell ⟨D, es.length * 3, none⟩ (.int .i64 a)).setCell ⟨D, es.length * 3 + 1, none⟩ (.int .i64 b)).setCell ⟨D, es.length * 3 + 2, none⟩ (.int .i64 c)) D n (es ++ [(a, b, c)]) := by
  obtain ⟨cs, h1, h2, h3⟩ := h
  refine ⟨((cs.setIfInBounds (es.length * 3) (.int .i64 a)).setIfInBounds (es.length * 3 + 1) (.int .i64 b)).setIfInBounds (es.length * 3 + 2) (.int .i64 c), ?_, by simp [h2], fun j hj => ?_⟩
  · simp [World.setCell, Array.getElem?_modify, h1]
  · by_cases e : j < es.length
    · rw [List.getElem_append_left e]
      obtain ⟨q1, q2, q3⟩ := h3 j e
      refine ⟨?_, ?_, ?_⟩
      · rw [Array.getElem?_setIfInBounds_ne (by omega), Array.getElem?_setIfInBounds_ne (by omega), Array.getElem?_setIfInBounds_ne (by omega), q1]
      · rw [Array.getElem?_setIfInBounds_ne (by omega), Array.getElem?_setIfInBounds_ne (by omega), Array.getElem?_setIfInBounds_ne (by omega), q2]
      · rw [Array.getElem?_setIfInBounds_ne (by omega), Array.getElem?_setIfInBounds_ne (by omega), Array.getElem?_setIfInBounds_ne (by omega), q3]
    · have ej : j = es.length := by simp at hj; omega
      subst ej
      have e1 : (es ++ [(a, b, c)])[es.length]'hj = (a, b, c) := by simp
      rw [e1]
      refine ⟨?_, ?_, ?_⟩
      · rw [Array.getElem?_setIfInBounds_ne (by omega), Array.getElem?_setIfInBounds_ne (by omega), Array.getElem?_setIfInBounds_self_of_lt (by omega)]
      · rw [Array.getElem?_setIfInBounds_ne (by omega), Array.getElem?_setIfInBounds_self_of_lt (by simp; omega)]
      · rw [Array.getElem?_setIfInBounds_self_of_lt (by simp; omega)]

theorem info_edge : (Tryz.prog.info? 58).map (fun i => (i.zero, i.size, i.bytes)) = some (some (.agg #[.int .i64 0, .int .i64 0, .int .i64 0]), 3, 24) := by kernel_rfl
theorem run_make_edges (n : Nat) (hn : n ≤ 196608) (w : World) : (Instr.makeSlice 47 (.int .i64 (n : Int)) (.int .i64 (n : Int))).run Tryz.prog w = .ok (.slice (some ⟨w.heap.size, 0, none⟩) n n) (w.alloc (.cells (madeCells #[.int .i64 0, .int .i64 0, .int .i64 0] (n * 3)) 58)) := by
  obtain ⟨i, hi, hzz⟩ := Option.map_eq_some_iff.1 info_edge
  simp only [Prod.mk.injEq] at hzz
  obtain ⟨hz, hs, hb⟩ := hzz
  have hr := run_make (P := Tryz.prog) w 47 58 i _ Tryz.underlying47 hi hz .i64 .i64 n n (by omega) (Int.le_refl _) (by rw [hb]; omega) (by omega)
  simp only [Int.toNat_natCast, hs] at hr
  exact hr
theorem E3.made (w : World) (n : Nat) : E3 (w.alloc (.cells (madeCells #[.int .i64 0, .int .i64 0, .int .i64 0] (n * 3)) 58)) w.heap.size n [] :=
  ⟨_, heap_new _ _, size_madeCells _ _, fun j hj => by simp at hj⟩

/-- The edges of r, by the cut P. -/
def IsEdges (A : List Nd) (r : Int) (P : List (List Nat)) (es : List (Int × Int × Int)) (k : Nat) : Prop :=
  es.length = k ∧ ∀ j (h : j < es.length) (h' : j < P.length), es[j].1 = (j : Int) ∧ es[j].2.1 = minF tabC P[j] ∧ Der A (minF tabC P[j]) r es[j].2.2
theorem IsEdges.le {A B : List Nd} (hA : Wf A) (hB : Wf B) (hAB : Le A B) {r : Int} (hr : Valid A r) {P : List (List Nat)} {es : List (Int × Int × Int)} {k : Nat} (h : IsEdges A r P es k) : IsEdges B r P es k :=
  ⟨h.1, fun j hj hj' => ⟨(h.2 j hj hj').1, (h.2 j hj hj').2.1, (h.2 j hj hj').2.2.le hA hB hAB hr⟩⟩
theorem IsEdges.snoc {A : List Nd} {r : Int} {P : List (List Nat)} {es : List (Int × Int × Int)} {k : Nat} (h : IsEdges A r P es k) (hk : k < P.length) {z : Int} (hd : Der A (minF tabC P[k]) r z) : IsEdges A r P (es ++ [((k : Int), minF tabC P[k], z)]) (k + 1) := by
  refine ⟨by simp [h.1], fun j hj hj' => ?_⟩
  by_cases e : j < es.length
  · rw [List.getElem_append_left e]
    exact h.2 j e hj'
  · have ej : j = es.length := by simp at hj; omega
    have ek := h.1
    subst ej
    subst ek
    have e1 : (es ++ [((es.length : Int), minF tabC P[es.length], z)])[es.length]'hj = ((es.length : Int), minF tabC P[es.length], z) := by simp
    rw [e1]
    exact ⟨rfl, rfl, hd⟩

def EgPost (r : Int) (P : List (List Nat)) (X : Nat → Prop) (w : World) (eb mb ab nb : Nat) (lim : Int) (A : List Nd) (e : Ending) (w' : World) : Prop :=
  ∃ X' nb' A' v ev, GrX X w eb mb ab nb lim A X' w' nb' A' ∧ e = .returned (.tuple #[v, ev]) ∧
    ((ev = .nilIface ∧ ∃ D es, v = .slice (some ⟨D, 0, none⟩) P.length P.length ∧ E3 w' D P.length es ∧ ¬ X' D ∧ IsEdges A' r P es P.length) ∨ ((∃ t v, ev = .iface t v) ∧ v = .slice none 0 0 ∧ Fl lim A' w' ev))

set_option maxHeartbeats 8000000 in
theorem Edges_walk {X : Nat → Prop} {w : World} {eb mb ab nb : Nat} {lim : Int} (hlim : lim ≤ 65536) {A : List Nd} (hE : Es X w eb mb ab nb lim A) (hg : Gd tabC w) (hw0 : 3 < w.heap.size) {r : Int} (hr : Valid A r) {P : List (List Nat)} (hP : IsCut tabC A r P) :
    Calls Tryz.prog 19 #[.pointer (some ⟨eb, 0, none⟩), .int .i64 r] w (EgPost r P X w eb mb ab nb lim A) := by
  have HE := hideIt hE
  have Hg := hideIt hg
  have Hr := hideIt hr
  have HP := hideIt hP
  have Hw0 := hideIt hw0
  clear hE hg hr hP hw0
  go_enter Tryz.func19, Tryz.ntmps19
  go_wp2_with fail
  go_at_call 18
  refine (Cut_walk HE.out Hg.out Hw0.out Hr.out).mono ?_
  rintro e w1 ⟨tb, P', rfl, hc, hi, hl, hgr⟩
  obtain rfl := hi.uniq HP.out
  obtain ⟨ba, bc, ra, rc, vs, c0, c1, hvl, hS, hW, hR⟩ := hc.cells
  have hmk := run_make_edges P'.length hl
  have HD0 : Hid (GrX X w eb mb ab nb lim A (fun b => X b ∨ b = w1.heap.size) (w1.alloc (.cells (madeCells #[.int .i64 0, .int .i64 0, .int .i64 0] (P'.length * 3)) 58)) nb A) := hgr.addNew _
  have HR : Hid (Ints (fun b => X b ∨ b = w1.heap.size) (w1.alloc (.cells (madeCells #[.int .i64 0, .int .i64 0, .int .i64 0] (P'.length * 3)) 58)) (.slice ra P'.length rc) (P'.map (minF tabC))) := (hR.more (fun b hb q => q.elim id (fun e => by omega))).below (alloc_below _) (Nat.le_refl _)
  have c1' := ((alloc_below (.cells (madeCells #[.int .i64 0, .int .i64 0, .int .i64 0] (P'.length * 3)) 58)).cell (p := ⟨tb, 1, none⟩) (cell_lt c1)).trans c1
  have HM0 := hideIt (E3.made w1 P'.length)
  have hsz := hgr.ext.size
  have la := HE.out.en.st.ar.la
  have lm := HE.out.en.lm
  have Hnn : Hid (w1.heap.size ≠ nb) := by have := HE.out.en.st.xlt nb HE.out.en.st.ar.xn; show _ ≠ _; omega
  clear hi hgr hS hW hR hc c0
  go_wp2_with fail
  generalize w1.alloc (.cells (madeCells #[.int .i64 0, .int .i64 0, .int .i64 0] (P'.length * 3)) 58) = w2 at *
  generalize w1.heap.size = D at *
  go_loopw [26] (fun i wr => ∃ (k : Nat) (X' : Nat → Prop) (nb' : Nat) (A' : List Nd) (es : List (Int × Int × Int)), k ≤ P'.length ∧ i = .int .i64 k ∧ GrX X w eb mb ab nb lim A X' wr nb' A' ∧ E3 wr D P'.length es ∧ X' D ∧ D ≠ nb' ∧ Ints X' wr (.slice ra P'.length rc) (P'.map (minF tabC)) ∧ IsEdges A' r P' es k) (fun i _ => P'.length - (intOf i).toNat)
  case atStart => exact ⟨0, _, nb, A, [], by omega, rfl, HD0.out, HM0.out, Or.inr rfl, Hnn.out, HR.out, rfl, fun j hj => by simp at hj⟩
  case round =>
    obtain ⟨k, X', nb', A', es, hk, rfl, hG, h3, hx', hdn, hRr, hI⟩ := hrel
    by_cases hlt : k < P'.length
    · have hlt' : (k : Int) < (P'.length : Int) := by omega
      have hkm : k < (P'.map (minF tabC)).length := by simpa using hlt
      have HRr := hideIt hRr
      obtain ⟨ad', cap', e, _, _, h4⟩ := hRr
      simp only [Value.slice.injEq] at e
      obtain ⟨rfl, el, rfl⟩ := e
      clear el
      obtain ⟨g, o, rfl, _, hcc⟩ := h4 (fun e => by rw [e] at hkm; cases hkm)
      have cu := hcc k hkm
      rw [List.getElem_map] at cu
      have Hrep := hideIt (HP.out.rep hlt).1
      have Hsn : Hid (∀ (B : List Nd) (z : Int), IsEdges B r P' es k → Der B (minF tabC P'[k]) r z → IsEdges B r P' (es ++ [((k : Int), minF tabC P'[k], z)]) (k + 1)) := fun B z a b => a.snoc hlt b
      generalize minF tabC P'[k] = mn at *
      have HG := hideIt hG
      have H3 := hideIt h3
      have HI := hideIt hI
      have Hx' := hideIt hx'
      have Hdn := hideIt hdn
      have hel := hI.1
      have hlD := h3.lt
      clear h4 hcc hG h3 hI hx' hdn
      go_wp2_with fail
      go_at_call 75
      refine (deriv_walk Hrep.out hlim _ r rfl X' _ nb' A' HG.out.en (HG.out.le.valid Hr.out)).mono ?_
      rintro e w3 ⟨X1, nb1, A1, z1, ev1, hg1, rfl, hh1⟩
      have Hdn1 : Hid (D ≠ nb1) := by
        rcases hg1.nbs with e | e
        · rw [e]; exact Hdn.out
        · show _ ≠ _; omega
      have hDb : w3.heap[D]? = wr.heap[D]? := hg1.ext.block D hlD (fun e => by
        rcases e with e | e | e
        · omega
        · exact Hdn.out e
        · omega)
      have H31 := hideIt (H3.out.of_block hDb)
      obtain ⟨cs, q1, q2, q3⟩ := H31.out
      have hcell : ∀ i, i < 3 → ∃ u, w3.cell? ⟨D, k * 3 + i, none⟩ = some u := fun i hi => by
        rw [box_cell q1]
        exact ⟨_, Array.getElem?_eq_getElem (by omega)⟩
      obtain ⟨u0, d0⟩ := hcell 0 (by omega)
      obtain ⟨u1, d1⟩ := hcell 1 (by omega)
      obtain ⟨u2, d2⟩ := hcell 2 (by omega)
      rw [Nat.add_zero] at d0
      have fz : ∀ i, w3.frozen? ⟨D, i, none⟩ = false := fun i => by simp [World.frozen?, q1]
      have f0 := fz (k * 3)
      have f1 := fz (k * 3 + 1)
      have f2 := fz (k * 3 + 2)
      have HG1 := hideIt (hg1.toX HG.out.es)
      have HRr1 := hideIt (hg1.seq HG.out.en HRr.out)
      have Hx1 : Hid (X1 D) := (hg1.sub _ hlD).2 Hx'.out
      clear hcell fz q1 q2 q3 hg1 hDb
      rcases hh1 with ⟨rfl, hd1⟩ | ⟨⟨t1, v1, rfl⟩, rfl, hf1⟩
      · have HI1 := hideIt (Hsn.out A1 z1 (HI.out.le HG.out.en.st.ar.wf HG1.out.en.st.ar.wf HG1.out.le (HG.out.le.valid Hr.out)) hd1)
        clear hd1
        have Hput : Hid (E3 (((w3.setCell ⟨D, k * 3, none⟩ (.int .i64 k)).setCell ⟨D, k * 3 + 1, none⟩ (.int .i64 mn)).setCell ⟨D, k * 3 + 2, none⟩ (.int .i64 z1)) D P'.length (es ++ [((k : Int), mn, z1)])) := by
          have := H31.out.put (by omega) (k : Int) mn z1
          rw [hel] at this
          exact this
        have hext : Ext w3.heap.size (fun b => b = D) w3 (((w3.setCell ⟨D, k * 3, none⟩ (.int .i64 k)).setCell ⟨D, k * 3 + 1, none⟩ (.int .i64 mn)).setCell ⟨D, k * 3 + 2, none⟩ (.int .i64 z1)) :=
          Ext.setCell (X := fun b => b = D) (p := ⟨D, k * 3 + 2, none⟩) (Ext.setCell (X := fun b => b = D) (p := ⟨D, k * 3 + 1, none⟩) (Ext.setCell (X := fun b => b = D) (p := ⟨D, k * 3, none⟩) (Ext.refl _ _ _) (Or.inr rfl) _) (Or.inr rfl) _) (Or.inr rfl) _
        have Hgw := hideIt ((HG.out.trans HG1.out).scr Hx1.out (by omega) (by omega) Hdn1.out (by omega) hext)
        have HRr2 := hideIt (HRr1.out.ext hext (Nat.le_refl _) (fun b _ q => by rw [show b = D from q]; exact Hx1.out))
        clear hext
        go_wp2_with fail
        go_roundw
        case rel => exact ⟨k + 1, X1, nb1, A1, _, by omega, by go_num, Hgw.out, Hput.out, Hx1.out, Hdn1.out, HRr2.out, HI1.out⟩
        case measure => simp [intOf]; omega
      · go_wp2_with fail
        go_ret2
        exact ⟨_, nb1, A1, _, _, (HG.out.trans HG1.out).dropped (D := D) (by omega) (by omega) Hdn1.out (by omega), rfl, Or.inr ⟨⟨t1, v1, rfl⟩, rfl, hf1⟩⟩
    · obtain rfl : k = P'.length := by omega
      have HG := hideIt hG
      have H3 := hideIt h3
      have HI := hideIt hI
      have Hdn := hideIt hdn
      clear hG h3 hI hRr hdn
      go_wp2_with fail
      go_ret2
      exact ⟨_, nb', A', _, _, HG.out.dropped (D := D) (by omega) (by omega) Hdn.out (by omega), rfl, Or.inl ⟨rfl, D, es, rfl, H3.out, fun q => q.2 rfl, HI.out⟩⟩
end Go.Proofs.Qxb6500848aGreatDoor
