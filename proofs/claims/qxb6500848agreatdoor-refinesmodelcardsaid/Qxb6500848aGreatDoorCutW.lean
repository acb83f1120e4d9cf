/-
  Engine.Cut, Cut.Index.
-/
import Derived.Test.Qxb6500848aGreatDoorAux
namespace Go.Proofs.Qxb6500848aGreatDoor
open Go.RowKit Pl Go.Maps
set_option maxRecDepth 100000

theorem zero_cut (w : World) : (zeroValue 45).run Tryz.prog w = .ok (.pointer none) w := by kernel_rfl

/-- What Cut hands back. -/
def CuPost (r : Int) (X : Nat → Prop) (w : World) (eb mb ab nb : Nat) (lim : Int) (A : List Nd) (e : Ending) (w' : World) : Prop :=
  ∃ tb P, e = .returned (.pointer (some ⟨tb, 0, none⟩)) ∧ CutAt X w' tb P ∧ IsCut tabC A r P ∧ P.length ≤ 196608 ∧ GrX X w eb mb ab nb lim A X w' nb A

/-- A new cut is laid. -/
theorem Es.lay {X : Nat → Prop} {w w2 : World} {eb mb ab nb : Nat} {lim : Int} {A : List Nd} (h : Es X w eb mb ab nb lim A) (hb : Below w.heap.size w w2) {x : Int} (hx : Valid A x) {get : Lit → Value} {ks : List Lit} (hM : Mp 28 w (mb + 2) get ks) (hH : ∀ k ∈ ks, ∃ x tb P, k = IK x ∧ Valid A x ∧ get k = .pointer (some ⟨tb, 0, none⟩) ∧ CutAt X w tb P ∧ IsCut tabC A x P ∧ P.length ≤ 196608) (hin : IK x ∉ ks) {tb : Nat} {P : List (List Nat)} (hc : CutAt X w2 tb P) (hi : IsCut tabC A x P) (hl : P.length ≤ 196608) :
    ∃ w', (Instr.mapUpdate 116 (.map (some (mb + 2))) (.int .i64 x) (.pointer (some ⟨tb, 0, none⟩))).run Tryz.prog w2 = .ok () w' ∧ GrX X w eb mb ab nb lim A X w' nb A ∧ CutAt X w' tb P := by
  have hA := h.en.st.ar.len
  have hcnt : ks.length ≤ A.length := keys_le hM.nodup (fun l => match l with | .int _ y => y.toNat | _ => 0) A.length
    (fun k hk => by obtain ⟨y, _, _, rfl, hy, _⟩ := hH k hk; exact hy.2)
    (fun k hk k' hk' e => by
      obtain ⟨y, _, _, rfl, hy, _⟩ := hH k hk
      obtain ⟨y', _, _, rfl, hy', _⟩ := hH k' hk'
      have : y = y' := by have h1 := hy.1; have h2 := hy'.1; simp only at e; omega
      rw [this])
  have h2 := h.below hb
  have hM2 := hM.ext (Ext.of_below hb (fun _ => False)) hM.lt id
  obtain ⟨w', get', r1, r2, r3, r4, r5⟩ := hM2.store law_id Tryz.underlying116 (by unfold maxLen; omega) (key_int x hx.1 (by have := hx.2; omega)) trivial hin (.pointer (some ⟨tb, 0, none⟩))
  have hT := Turn.one r5 h2.ax.m2
  refine ⟨w', r1, GrX.after hb (GrX.turned h2 r5 (Or.inr (Or.inl rfl)) ?_), hc.turn hT⟩
  obtain ⟨a, b, c, he⟩ := h2.ax.eng
  obtain ⟨g2, k2, M2, H2⟩ := h2.ax.pa
  obtain ⟨g3, k3, M3, H3⟩ := h2.ax.pn
  refine ⟨⟨a, b, c, hT.block he⟩, h.ax.n1, h.ax.n2, h.ax.n3, ⟨get', _, r2, fun k hk => ?_⟩, ⟨g2, k2, M2.ext r5 M2.lt (by omega), fun k hk => ?_⟩, ⟨g3, k3, M3.ext r5 M3.lt (by omega), H3⟩⟩
  · rcases List.mem_cons.1 hk with e | hk
    · subst e
      exact ⟨x, tb, P, rfl, hx, r3, hc.turn hT, hi, hl⟩
    · obtain ⟨y, tb', P', q1, q2, q3, q4, q5, q6⟩ := hH k hk
      exact ⟨y, tb', P', q1, q2, (r4 k hk).trans q3, (q4.keepX (Ext.of_below hb _) (fun _ _ => Iff.rfl)).turn hT, q5, q6⟩
  · obtain ⟨y, c, l, q1, q2, q3, q4, q5⟩ := H2 k hk
    exact ⟨y, c, l, q1, q2, q3, hT.seq q4, q5⟩

theorem rowD_ints {X : Nat → Prop} {w : World} {D : Nat} {ds : List Int} {t : TypeId} (h : w.heap[D]? = some (.cells (rowD ds ds.length).toArray t (0, 0))) (hX : ¬ X D) (hl : ds.length ≤ maxLen) : Ints X w (.slice (some ⟨D, 0, none⟩) ds.length ds.length) ds :=
  ⟨_, _, rfl, Nat.le_refl _, hl, fun _ => ⟨D, 0, rfl, hX, fun j hj => by rw [box_cell h]; simp [rowD, hj]⟩⟩

/-- While the representatives are written. -/
structure CL (w2 : World) (bv : Value) (n : Nat) (ds : List Int) (wr : World) : Prop where
  below : Below w2.heap.size w2 wr
  blk : wr.heap[w2.heap.size]? = some (.cells #[bv, .slice (some ⟨w2.heap.size + 1, 0, none⟩) n n] 51 (0, 0))
  row : wr.heap[w2.heap.size + 1]? = some (.cells (rowD ds n).toArray 3 (0, 0))
theorem CL.put {w2 : World} {bv : Value} {n : Nat} {ds : List Int} {wr w1 : World} (h : CL w2 bv n ds wr) (hl : ds.length < n) (e : w1.heap = wr.heap) (z : Int) (hb : Below wr.heap.size wr w1) : CL w2 bv n (ds ++ [z]) (w1.setCell ⟨w2.heap.size + 1, ds.length, none⟩ (.int .i64 z)) := by
  have s1 := h.below.size
  refine ⟨Below.setCell (p := ⟨w2.heap.size + 1, ds.length, none⟩) (h.below.trans (hb.mono s1)) (by show w2.heap.size ≤ w2.heap.size + 1; omega) _, ?_, ?_⟩
  · simp [World.setCell, Array.getElem?_modify, e, h.blk]
  · simp only [World.setCell, Array.getElem?_modify, e, h.row]
    simp [rowD_put ds n hl z]

set_option maxHeartbeats 8000000 in
theorem Cut_walkT {X : Nat → Prop} {w : World} {eb mb ab nb : Nat} {lim : Int} {A : List Nd} (hE : Es X w eb mb ab nb lim A) (hg : Gd tabC w) (hw0 : 3 < w.heap.size) {r : Int} (hr : Valid A r) (e1 : w.cell? ⟨eb, 1, none⟩ = some (.bool true)) :
    Calls Tryz.prog 18 #[.pointer (some ⟨eb, 0, none⟩), .int .i64 r] w (CuPost r X w eb mb ab nb lim A) := by
  obtain ⟨a1, a2, a3, he⟩ := hE.ax.eng
  obtain ⟨b1, b2, b3, he2⟩ := hE.en.eng
  have e0 := box_cell he2 0
  have e4 := box_cell he 4
  simp only [List.getElem?_toArray, List.getElem?_cons_zero, List.getElem?_cons_succ] at e0 e4
  have le := heap_lt he
  obtain ⟨get, ks, hM, hH⟩ := hE.ax.cu
  have hlen := hE.en.st.ar.len
  have hkey := key_int r hr.1 (by have := hr.2; omega)
  by_cases hin : (IK r) ∈ ks
  · obtain ⟨y, tb, P, ey, _, eg, hc, hi, hl⟩ := hH _ hin
    cases ey
    have hlk := hM.hit law_id Tryz.underlying116 (zero_cut w) hkey hin
    have eg' : get (Lit.int .i64 r) = .pointer (some ⟨tb, 0, none⟩) := eg
    rw [eg'] at hlk
    have HP : Hid (CuPost r X w eb mb ab nb lim A (.returned (.pointer (some ⟨tb, 0, none⟩))) w) := ⟨tb, P, rfl, hc, hi, hl, GrX.refl hE⟩
    clear hE hg hr hM hH hc hi eg
    go_enter Tryz.func18, Tryz.ntmps18
    go_wp2
    go_ret
    exact HP.out
  · have hlk := hM.miss law_id Tryz.underlying116 (zero_cut w) hkey hin
    have HE := hideIt hE
    have Hg := hideIt hg
    have Hw0 := hideIt hw0
    have Hr := hideIt hr
    have HM := hideIt hM
    have HH := hideIt hH
    have Hin := hideIt hin
    have Hxl := hideIt hE.en.st.xlt
    have l2 := hM.lt
    clear hE hg hw0 hr hM hH hin
    go_enter Tryz.func18, Tryz.ntmps18
    go_wp2_with fail
    go_at_call 17
    refine (classes_walk HE.out.en.st Hr.out).mono ?_
    rintro e w1 ⟨v1, F, rfl, hF, hcl, hfl, hIs, hb1⟩
    have HF := hideIt hF
    have Hcl := hideIt hcl
    have HIs := hideIt hIs
    have HB1 := hideIt hb1
    clear hF hcl hIs hb1
    go_wp2_with fail
    go_at_call 16
    refine (minterms_walk tabC_bd (Hg.out.below HB1.out Hw0.out) (Nat.lt_of_lt_of_le Hw0.out HB1.out.size) HF.out Hcl.out hfl).mono ?_
    rintro e w2 ⟨v2, P, rfl, hS, hG, hPl, hPm, hPs, hb2⟩
    have HMts : Hid (IsCut tabC A r P) := isCut_of tabC_ok ⟨hG, F, Hcl.out, HIs.out, hPm, hPs⟩
    have HBB := hideIt (HB1.out.trans (hb2.mono HB1.out.size))
    have HSv : Hid (Sets X w2 v2 P) := by
      obtain ⟨fs, q1, q2, q3⟩ := hS
      exact ⟨fs, q1, q2.more (fun b _ x => Nat.lt_of_lt_of_le (Hxl.out b x) HB1.out.size), fun i hi hi' => (q3 i hi hi').more (fun b _ x => Nat.lt_of_lt_of_le (Hxl.out b x) HB1.out.size)⟩
    have HGd := hideIt (Hg.out.below HBB.out Hw0.out)
    have HGood := hideIt hG
    clear hG hPm hPs hb2 hS HF Hcl HIs
    obtain ⟨vs, hvl, ⟨pa, pc, rfl, p1, p2, p3⟩, hvw⟩ := HSv.out
    have P3 := hideIt p3
    have HVW := hideIt hvw
    have hvs : vs.length ≤ 196608 := by omega
    have hvlP := hideIt hvl
    clear p3 hvw hvl
    have lw2 : w.heap.size ≤ w2.heap.size := HBB.out.size
    have k0 := (HBB.out.cell (p := ⟨eb, 1, none⟩) le).trans e1
    have k4 := (HBB.out.cell (p := ⟨eb, 4, none⟩) le).trans e4
    have hm1 := run_make_row' (P := Tryz.prog) 24 3 (.int .i64 0) 8 Tryz.underlying24 info_int rfl .i64 .i64 vs.length (by omega) (by omega)
    have HC0 : Hid (CL w2 (.slice pa vs.length pc) vs.length [] ((w2.alloc (.cells #[.slice pa vs.length pc, .slice (some ⟨w2.heap.size + 1, 0, none⟩) vs.length vs.length] 51)).alloc (.cells (madeCells #[.int .i64 0] vs.length) 3))) := by
      have s1 : ∀ o : Obj, (w2.alloc o).heap.size = w2.heap.size + 1 := fun o => Deep.nblk_alloc w2 o
      refine ⟨(alloc_below _).trans ((alloc_below _).mono (alloc_below _).size), (Deep.blk_alloc_lt _ _ _ (by rw [s1]; omega)).trans (heap_new _ _), ?_⟩
      rw [← made_row]
      exact new_at _ _ (s1 _)
    go_wp2_with fail
    go_loopw [48] (fun i wr => ∃ (k : Nat), k ≤ vs.length ∧ i = .int .i64 k ∧ CL w2 (.slice pa vs.length pc) vs.length ((P.take k).map (minF tabC)) wr) (fun i _ => vs.length - (intOf i).toNat)
    case atStart => exact ⟨0, by omega, rfl, HC0.out⟩
    case round =>
      obtain ⟨k, hk, rfl, hC⟩ := hrel
      have t0 := box_cell hC.blk 0
      have t1 := box_cell hC.blk 1
      simp only [List.getElem?_toArray, List.getElem?_cons_zero, List.getElem?_cons_succ] at t0 t1
      have lr := heap_lt hC.row
      by_cases hlt : k < vs.length
      · have hlt' : (k : Int) < (vs.length : Int) := by omega
        obtain ⟨g, o, rfl, hxg, hc⟩ := P3.out (fun e => by rw [e] at hlt; cases hlt)
        have gl : g < w2.heap.size := cell_lt (hc k hlt)
        have c0 := (hC.below.cell (p := ⟨g, o + k, none⟩) gl).trans (hc k hlt)
        have hkP : k < P.length := by have := hvlP.out; omega
        have hw := (HVW.out k hlt hkP).below hC.below (Nat.le_refl _)
        have hgp := HGood.out _ (List.getElem_mem hkP)
        have Hmin := hideIt (fun (W : World) (hW : Below wr.heap.size wr W) => min_walk tabC_bd ((HGd.out.below hC.below (Nat.lt_of_lt_of_le Hw0.out lw2)).below hW (Nat.lt_of_lt_of_le (Nat.lt_of_lt_of_le Hw0.out lw2) hC.below.size)) (hw.below hW (Nat.le_refl _)) hgp.1 (cnt_pos hgp.2))
        have hdl : ((P.take k).map (minF tabC)).length = k := by simp; omega
        have Hput : Hid (∀ (w1 : World), w1.heap = wr.heap → Below wr.heap.size wr w1 → CL w2 (.slice (some ⟨g, o, none⟩) vs.length pc) vs.length ((P.take (k + 1)).map (minF tabC)) (w1.setCell ⟨w2.heap.size + 1, k, none⟩ (.int .i64 (minF tabC P[k])))) := fun w1 e1 e2 => by
          have := hC.put (by rw [hdl]; exact hlt) e1 (minF tabC P[k]) e2
          rw [hdl] at this
          rw [List.take_succ_eq_append_getElem hkP, List.map_append]
          exact this
        have c2 : ∃ u, wr.cell? ⟨w2.heap.size + 1, k, none⟩ = some u := by
          rw [box_cell hC.row k]
          exact ⟨_, Array.getElem?_eq_getElem (by rw [List.size_toArray, rowD_len _ _ (by rw [hdl]; omega)]; exact hlt)⟩
        obtain ⟨u, c2⟩ := c2
        have fz : wr.frozen? ⟨w2.heap.size + 1, k, none⟩ = false := by simp [World.frozen?, hC.row]
        generalize minF tabC P[k] = mn at *
        generalize vs[k] = pv at *
        clear hc hw hgp hC hdl
        go_wp2_with fail
        go_region_held3 (fun w' => w'.cell? ⟨w2.heap.size, 1, none⟩ = some (.slice (some ⟨w2.heap.size + 1, 0, none⟩) vs.length vs.length)) (first | (exact t1) | go_keep)
          (first
            | (go_at_call 23; refine (Hmin.out _ (by exact ⟨rfl, rfl, rfl, Nat.le_refl _, fun _ _ => rfl⟩)).mono ?_; rintro e w3 ⟨rfl, rfl⟩))
        all_goals
          go_wp2_with fail
          go_roundw
          case rel => exact ⟨k + 1, by omega, by go_num, Hput.out wr.drew rfl ⟨rfl, rfl, rfl, Nat.le_refl _, fun _ _ => rfl⟩⟩
          case measure => simp [intOf]; omega
      · obtain rfl : k = vs.length := by omega
        have hPk : P.take vs.length = P := List.take_of_length_le (by have := hvlP.out; omega)
        rw [hPk] at hC
        have hml : (P.map (minF tabC)).length = vs.length := by simp; exact hvlP.out.symm
        have hb3 := HBB.out.trans (hC.below.mono lw2)
        have hcut : CutAt X wr w2.heap.size P := by
          refine ⟨⟨_, _, hC.blk, ?_, ?_⟩, fun x => by have := Hxl.out _ x; omega⟩
          · obtain ⟨fs, q1, q2, q3⟩ := HSv.out
            exact ⟨fs, q1, q2.below hC.below (Nat.le_refl _), fun i hi hi' => (q3 i hi hi').below hC.below (Nat.le_refl _)⟩
          · have := rowD_ints (X := X) (w := wr) (D := w2.heap.size + 1) (ds := P.map (minF tabC)) (t := 3) (by rw [hml]; exact hC.row) (fun x => by have := Hxl.out _ x; omega) (by rw [hml]; unfold maxLen; omega)
            rw [hml] at this
            exact this
        obtain ⟨w', hput, hgr, hcw⟩ := HE.out.lay hb3 Hr.out HM.out HH.out Hin.out hcut HMts.out hPl
        have k0' := (hC.below.cell (p := ⟨eb, 1, none⟩) (by show eb < _; omega)).trans k0
        have k4' := (hC.below.cell (p := ⟨eb, 4, none⟩) (by show eb < _; omega)).trans k4
        have HR : Hid (CuPost r X w eb mb ab nb lim A (.returned (.pointer (some ⟨w2.heap.size, 0, none⟩))) w') := ⟨_, P, rfl, hcw, HMts.out, hPl, hgr⟩
        clear hC hcut hgr hcw hPk hml hb3
        go_wp2_with fail
        go_ret
        exact HR.out

set_option maxHeartbeats 8000000 in
theorem Cut_walkF {X : Nat → Prop} {w : World} {eb mb ab nb : Nat} {lim : Int} {A : List Nd} (hE : Es X w eb mb ab nb lim A) (hg : Gd tabC w) (hw0 : 3 < w.heap.size) {r : Int} (hr : Valid A r) (e1 : w.cell? ⟨eb, 1, none⟩ = some (.bool false)) :
    Calls Tryz.prog 18 #[.pointer (some ⟨eb, 0, none⟩), .int .i64 r] w (CuPost r X w eb mb ab nb lim A) := by
  obtain ⟨a1, a2, a3, he⟩ := hE.ax.eng
  obtain ⟨b1, b2, b3, he2⟩ := hE.en.eng
  have e0 := box_cell he2 0
  have e4 := box_cell he 4
  simp only [List.getElem?_toArray, List.getElem?_cons_zero, List.getElem?_cons_succ] at e0 e4
  have le := heap_lt he
  obtain ⟨get, ks, hM, hH⟩ := hE.ax.cu
  have hlen := hE.en.st.ar.len
  have hkey := key_int r hr.1 (by have := hr.2; omega)
  have HE := hideIt hE
  have Hg := hideIt hg
  have Hw0 := hideIt hw0
  have Hr := hideIt hr
  have Hxl := hideIt hE.en.st.xlt
  have l2 := hM.lt
  clear hE hg hw0 hr hM hH
  go_enter Tryz.func18, Tryz.ntmps18
  go_wp2_with fail
  go_at_call 17
  refine (classes_walk HE.out.en.st Hr.out).mono ?_
  rintro e w1 ⟨v1, F, rfl, hF, hcl, hfl, hIs, hb1⟩
  have HF := hideIt hF
  have Hcl := hideIt hcl
  have HIs := hideIt hIs
  have HB1 := hideIt hb1
  clear hF hcl hIs hb1
  go_wp2_with fail
  go_at_call 16
  refine (minterms_walk tabC_bd (Hg.out.below HB1.out Hw0.out) (Nat.lt_of_lt_of_le Hw0.out HB1.out.size) HF.out Hcl.out hfl).mono ?_
  rintro e w2 ⟨v2, P, rfl, hS, hG, hPl, hPm, hPs, hb2⟩
  have HMts : Hid (IsCut tabC A r P) := isCut_of tabC_ok ⟨hG, F, Hcl.out, HIs.out, hPm, hPs⟩
  have HBB := hideIt (HB1.out.trans (hb2.mono HB1.out.size))
  have HSv : Hid (Sets X w2 v2 P) := by
    obtain ⟨fs, q1, q2, q3⟩ := hS
    exact ⟨fs, q1, q2.more (fun b _ x => Nat.lt_of_lt_of_le (Hxl.out b x) HB1.out.size), fun i hi hi' => (q3 i hi hi').more (fun b _ x => Nat.lt_of_lt_of_le (Hxl.out b x) HB1.out.size)⟩
  have HGd := hideIt (Hg.out.below HBB.out Hw0.out)
  have HGood := hideIt hG
  clear hG hPm hPs hb2 hS HF Hcl HIs
  obtain ⟨vs, hvl, ⟨pa, pc, rfl, p1, p2, p3⟩, hvw⟩ := HSv.out
  have P3 := hideIt p3
  have HVW := hideIt hvw
  have hvs : vs.length ≤ 196608 := by omega
  have hvlP := hideIt hvl
  clear p3 hvw hvl
  have lw2 : w.heap.size ≤ w2.heap.size := HBB.out.size
  have k0 := (HBB.out.cell (p := ⟨eb, 1, none⟩) le).trans e1
  have k4 := (HBB.out.cell (p := ⟨eb, 4, none⟩) le).trans e4
  have hm1 := run_make_row' (P := Tryz.prog) 24 3 (.int .i64 0) 8 Tryz.underlying24 info_int rfl .i64 .i64 vs.length (by omega) (by omega)
  have HC0 : Hid (CL w2 (.slice pa vs.length pc) vs.length [] ((w2.alloc (.cells #[.slice pa vs.length pc, .slice (some ⟨w2.heap.size + 1, 0, none⟩) vs.length vs.length] 51)).alloc (.cells (madeCells #[.int .i64 0] vs.length) 3))) := by
    have s1 : ∀ o : Obj, (w2.alloc o).heap.size = w2.heap.size + 1 := fun o => Deep.nblk_alloc w2 o
    refine ⟨(alloc_below _).trans ((alloc_below _).mono (alloc_below _).size), (Deep.blk_alloc_lt _ _ _ (by rw [s1]; omega)).trans (heap_new _ _), ?_⟩
    rw [← made_row]
    exact new_at _ _ (s1 _)
  go_wp2_with fail
  go_loopw [48] (fun i wr => ∃ (k : Nat), k ≤ vs.length ∧ i = .int .i64 k ∧ CL w2 (.slice pa vs.length pc) vs.length ((P.take k).map (minF tabC)) wr) (fun i _ => vs.length - (intOf i).toNat)
  case atStart => exact ⟨0, by omega, rfl, HC0.out⟩
  case round =>
    obtain ⟨k, hk, rfl, hC⟩ := hrel
    have t0 := box_cell hC.blk 0
    have t1 := box_cell hC.blk 1
    simp only [List.getElem?_toArray, List.getElem?_cons_zero, List.getElem?_cons_succ] at t0 t1
    have lr := heap_lt hC.row
    by_cases hlt : k < vs.length
    · have hlt' : (k : Int) < (vs.length : Int) := by omega
      obtain ⟨g, o, rfl, hxg, hc⟩ := P3.out (fun e => by rw [e] at hlt; cases hlt)
      have gl : g < w2.heap.size := cell_lt (hc k hlt)
      have c0 := (hC.below.cell (p := ⟨g, o + k, none⟩) gl).trans (hc k hlt)
      have hkP : k < P.length := by have := hvlP.out; omega
      have hw := (HVW.out k hlt hkP).below hC.below (Nat.le_refl _)
      have hgp := HGood.out _ (List.getElem_mem hkP)
      have Hmin := hideIt (fun (W : World) (hW : Below wr.heap.size wr W) => min_walk tabC_bd ((HGd.out.below hC.below (Nat.lt_of_lt_of_le Hw0.out lw2)).below hW (Nat.lt_of_lt_of_le (Nat.lt_of_lt_of_le Hw0.out lw2) hC.below.size)) (hw.below hW (Nat.le_refl _)) hgp.1 (cnt_pos hgp.2))
      have hdl : ((P.take k).map (minF tabC)).length = k := by simp; omega
      have Hput : Hid (∀ (w1 : World), w1.heap = wr.heap → Below wr.heap.size wr w1 → CL w2 (.slice (some ⟨g, o, none⟩) vs.length pc) vs.length ((P.take (k + 1)).map (minF tabC)) (w1.setCell ⟨w2.heap.size + 1, k, none⟩ (.int .i64 (minF tabC P[k])))) := fun w1 e1 e2 => by
        have := hC.put (by rw [hdl]; exact hlt) e1 (minF tabC P[k]) e2
        rw [hdl] at this
        rw [List.take_succ_eq_append_getElem hkP, List.map_append]
        exact this
      have c2 : ∃ u, wr.cell? ⟨w2.heap.size + 1, k, none⟩ = some u := by
        rw [box_cell hC.row k]
        exact ⟨_, Array.getElem?_eq_getElem (by rw [List.size_toArray, rowD_len _ _ (by rw [hdl]; omega)]; exact hlt)⟩
      obtain ⟨u, c2⟩ := c2
      have fz : wr.frozen? ⟨w2.heap.size + 1, k, none⟩ = false := by simp [World.frozen?, hC.row]
      generalize minF tabC P[k] = mn at *
      generalize vs[k] = pv at *
      clear hc hw hgp hC hdl
      go_wp2_with fail
      go_region_held3 (fun w' => w'.cell? ⟨w2.heap.size, 1, none⟩ = some (.slice (some ⟨w2.heap.size + 1, 0, none⟩) vs.length vs.length)) (first | (exact t1) | go_keep)
        (first
          | (go_at_call 23; refine (Hmin.out _ (by exact ⟨rfl, rfl, rfl, Nat.le_refl _, fun _ _ => rfl⟩)).mono ?_; rintro e w3 ⟨rfl, rfl⟩))
      all_goals
        go_wp2_with fail
        go_roundw
        case rel => exact ⟨k + 1, by omega, by go_num, Hput.out wr.drew rfl ⟨rfl, rfl, rfl, Nat.le_refl _, fun _ _ => rfl⟩⟩
        case measure => simp [intOf]; omega
    · obtain rfl : k = vs.length := by omega
      have hPk : P.take vs.length = P := List.take_of_length_le (by have := hvlP.out; omega)
      rw [hPk] at hC
      have hml : (P.map (minF tabC)).length = vs.length := by simp; exact hvlP.out.symm
      have hb3 := HBB.out.trans (hC.below.mono lw2)
      have hcut : CutAt X wr w2.heap.size P := by
        refine ⟨⟨_, _, hC.blk, ?_, ?_⟩, fun x => by have := Hxl.out _ x; omega⟩
        · obtain ⟨fs, q1, q2, q3⟩ := HSv.out
          exact ⟨fs, q1, q2.below hC.below (Nat.le_refl _), fun i hi hi' => (q3 i hi hi').below hC.below (Nat.le_refl _)⟩
        · have := rowD_ints (X := X) (w := wr) (D := w2.heap.size + 1) (ds := P.map (minF tabC)) (t := 3) (by rw [hml]; exact hC.row) (fun x => by have := Hxl.out _ x; omega) (by rw [hml]; unfold maxLen; omega)
          rw [hml] at this
          exact this
      have hgr := (GrX.refl HE.out).below hb3
      have k0' := (hC.below.cell (p := ⟨eb, 1, none⟩) (by show eb < _; omega)).trans k0
      have k4' := (hC.below.cell (p := ⟨eb, 4, none⟩) (by show eb < _; omega)).trans k4
      have HR : Hid (CuPost r X w eb mb ab nb lim A (.returned (.pointer (some ⟨w2.heap.size, 0, none⟩))) wr) := ⟨_, P, rfl, hcut, HMts.out, hPl, hgr⟩
      clear hC hcut hgr hPk hml hb3
      go_wp2_with fail
      go_ret
      exact HR.out

theorem Cut_walk {X : Nat → Prop} {w : World} {eb mb ab nb : Nat} {lim : Int} {A : List Nd} (hE : Es X w eb mb ab nb lim A) (hg : Gd tabC w) (hw0 : 3 < w.heap.size) {r : Int} (hr : Valid A r) :
    Calls Tryz.prog 18 #[.pointer (some ⟨eb, 0, none⟩), .int .i64 r] w (CuPost r X w eb mb ab nb lim A) := by
  obtain ⟨⟨mm, b1⟩, b2, b3, he2⟩ := hE.en.eng
  cases mm
  · exact Cut_walkF hE hg hw0 hr (box_cell he2 1)
  · exact Cut_walkT hE hg hw0 hr (box_cell he2 1)

/-- Where c lies in the cut. -/
theorem CutAt.cells {X : Nat → Prop} {w : World} {tb : Nat} {P : List (List Nat)} (h : CutAt X w tb P) : ∃ ba bc ra rc vs, w.cell? ⟨tb, 0, none⟩ = some (.slice ba P.length bc) ∧ w.cell? ⟨tb, 1, none⟩ = some (.slice ra P.length rc) ∧ vs.length = P.length ∧ Seq (fun u => u) X w (.slice ba P.length bc) vs ∧ (∀ i (h : i < vs.length) (h' : i < P.length), Words X w vs[i] P[i]) ∧ Ints X w (.slice ra P.length rc) (P.map (minF tabC)) := by
  obtain ⟨bv, rv, h1, ⟨vs, h2, h3, h4⟩, h5⟩ := h.blk
  have c0 := box_cell h1 0
  have c1 := box_cell h1 1
  simp only [List.getElem?_toArray, List.getElem?_cons_zero, List.getElem?_cons_succ] at c0 c1
  have h3' := h3
  have h5' := h5
  obtain ⟨ba, bc, rfl, _⟩ := h3
  obtain ⟨ra, rc, rfl, _⟩ := h5
  rw [h2] at c0 h3'
  rw [List.length_map] at c1 h5'
  exact ⟨ba, bc, ra, rc, vs, c0, c1, h2, h3', h4, h5'⟩

def IxPost (P : List (List Nat)) (c : Int) (w : World) (e : Ending) (w' : World) : Prop :=
  w' = w ∧ ((¬ (0 ≤ c ∧ c ≤ 196607) ∧ e = .returned (.tuple #[.int .i64 0, .bool false])) ∨ ((0 ≤ c ∧ c ≤ 196607) ∧ ∃ b, b < P.length ∧ hasC (P.getD b []) c = true ∧ e = .returned (.tuple #[.int .i64 (b : Nat), .bool true])))

set_option maxHeartbeats 2000000 in
theorem Index_walk {X : Nat → Prop} {w : World} {tb : Nat} {P : List (List Nat)} (h : CutAt X w tb P) {A : List Nd} {r : Int} (hi : IsCut tabC A r P) (hl : P.length ≤ 196608) (c : Int) :
    Calls Tryz.prog 26 #[.pointer (some ⟨tb, 0, none⟩), .int .i64 c] w (IxPost P c w) := by
  obtain ⟨ba, bc, ra, rc, vs, c0, c1, hvl, hS, hW, hR⟩ := h.cells
  have hin := inAlphabet_walk c
  by_cases ha : 0 ≤ c ∧ c ≤ 196607
  · have hd : decide (0 ≤ c ∧ c ≤ 196607) = true := by simp [ha]
    have Hex : Hid (∃ b, b < P.length ∧ hasC (P.getD b []) c = true) := by
      obtain ⟨F, _, _, hC⟩ := hi
      obtain ⟨p, hp, hpc⟩ := hC.mt.cover c ha.1 ha.2
      obtain ⟨b, hb, rfl⟩ := List.getElem_of_mem hp
      exact ⟨b, hb, by rw [getD_lt hb]; exact hpc⟩
    have HG : Hid (∀ p ∈ P, Cl p) := by
      obtain ⟨F, _, _, hC⟩ := hi
      exact fun p hp => (hC.mt.good p hp).1
    obtain ⟨q0, q1, e, q2, q3, q4⟩ := hS
    simp only [Value.slice.injEq] at e
    obtain ⟨rfl, el, rfl⟩ := e
    have HS := hideIt q4
    have HW := hideIt hW
    have Hin := hideIt hin
    have Hvl := hideIt hvl
    clear hi hW hR q4 h hin hvl el
    go_enter Tryz.func26, Tryz.ntmps26
    go_wp2_with (go_at_call 79; refine (Hin.out _).mono ?_; rintro e w' ⟨rfl, hw'⟩; obtain rfl := hw'.symm; rw [hd])
    go_loopw [16] (fun i wr => ∃ (k : Nat), k ≤ P.length ∧ i = .int .i64 k ∧ wr = w ∧ ∀ j, j < k → hasC (P.getD j []) c = false) (fun i _ => P.length - (intOf i).toNat)
    case atStart => exact ⟨0, by omega, rfl, rfl, fun j hj => by omega⟩
    case round =>
      obtain ⟨k, hk, rfl, rfl, hno⟩ := hrel
      by_cases hlt : k < P.length
      · have hlt' : (k : Int) < (P.length : Int) := by omega
        have hkv : k < vs.length := by have := Hvl.out; omega
        obtain ⟨g, o, rfl, hxg, hc⟩ := HS.out (fun e => by rw [e] at hkv; cases hkv)
        have c2 := hc k hkv
        have hw := HW.out k hkv hlt
        have hcl := HG.out _ (List.getElem_mem hlt)
        have Hh := hideIt (fun W (e : W = wr) => sethas_walk (e ▸ hw) hcl.1 hcl.2 c)
        have egD : P.getD k [] = P[k] := getD_lt hlt _
        have HgD := hideIt egD
        have Hno := hideIt hno
        clear hc hw hcl egD hno
        generalize P[k] = p at *
        generalize vs[k] = pv at *
        cases hb : hasC p c
        · go_wp2_with (go_at_call 21; refine (Hh.out _ rfl).mono ?_; rintro e w' ⟨rfl, hw'⟩; obtain rfl := hw'.symm; rw [hb])
          go_roundw
          case rel => exact ⟨k + 1, by omega, by go_num, trivial, fun j hj => by
            by_cases e : j = k
            · subst e; rw [HgD.out]; exact hb
            · exact Hno.out j (by omega)⟩
          case measure => simp [intOf]; omega
        · go_wp2_with (go_at_call 21; refine (Hh.out _ rfl).mono ?_; rintro e w' ⟨rfl, hw'⟩; obtain rfl := hw'.symm; rw [hb])
          go_ret2
          exact ⟨rfl, Or.inr ⟨ha, k, hlt, by rw [HgD.out]; exact hb, rfl⟩⟩
      · exfalso
        obtain ⟨b, hb, hbc⟩ := Hex.out
        have := hno b (by omega)
        rw [hbc] at this
        cases this
  · have hd : decide (0 ≤ c ∧ c ≤ 196607) = false := by simp; omega
    clear hi hW hR hS h
    have Hin := hideIt hin
    clear hin
    go_enter Tryz.func26, Tryz.ntmps26
    go_wp2_with (go_at_call 79; refine (Hin.out _).mono ?_; rintro e w' ⟨rfl, hw'⟩; obtain rfl := hw'.symm; rw [hd])
    go_ret2
    exact ⟨rfl, Or.inl ⟨ha, rfl⟩⟩
end Go.Proofs.Qxb6500848aGreatDoor
