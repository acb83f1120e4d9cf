/-
  derivCompound at a union and at an intersection.
-/
import Derived.Test.Qxb6500848aGreatDoorComp7
namespace Go.Proofs.Qxb6500848aGreatDoor
open Go.RowKit Pl Go.Maps
set_option maxRecDepth 100000

theorem CS.addNew {bx : Nat} {x : Int} {nd : Nd} {sv kv : Value} {X : Nat → Prop} {w : World} {eb mb ab nb : Nat} {lim : Int} {A : List Nd} (h : CS bx x nd sv kv X w eb mb ab nb lim A) (o : Obj) : CS bx x nd sv kv (fun b => X b ∨ b = w.heap.size) (w.alloc o) eb mb ab nb lim A := by
  have hm : ∀ b, b < w.heap.size → (X b ∨ b = w.heap.size) → X b := fun b hb h => h.elim id (fun e => by omega)
  have h1 := h.below (alloc_below o) (Nat.le_refl _)
  have lb := h.en.lb
  have lx := heap_lt h.box
  refine ⟨⟨⟨(h.en.st.ar.more (fun b hb => Or.inl hb) hm).below (alloc_below o) (Nat.le_refl _), fun z hz => ?_⟩, h1.en.eng, fun e => e.elim h.en.xe (fun e => by omega), Or.inl h.en.xm, h.en.ma, h.en.mn, h1.en.memo⟩, h1.box, fun e => e.elim h.bxn (fun e => by omega), (h.kids.more hm).below (alloc_below o) (Nat.le_refl _), h.hx, h.node⟩
  rw [Deep.nblk_alloc]
  rcases hz with hz | hz
  · have := h.en.st.xlt z hz; omega
  · omega

theorem CS.put {bx : Nat} {x : Int} {nd : Nd} {sv kv : Value} {X : Nat → Prop} {w : World} {eb mb ab nb : Nat} {lim : Int} {A : List Nd} (h : CS bx x nd sv kv X w eb mb ab nb lim A) {D i : Nat} (hD : X D) (ha : D ≠ ab) (hn : D ≠ nb) (hm : D ≠ mb) (u : Value) : CS bx x nd sv kv X (w.setCell ⟨D, i, none⟩ u) eb mb ab nb lim A := by
  have e : Ext w.heap.size (fun b => b = D) w (w.setCell ⟨D, i, none⟩ u) := Ext.setCell (X := fun b => b = D) (p := ⟨D, i, none⟩) (Ext.refl _ _ _) (Or.inr rfl) u
  have hY : ∀ b, b < w.heap.size → b = D → X b := fun b _ e => by rw [e]; exact hD
  refine ⟨⟨⟨h.en.st.ar.keep e (Nat.le_refl _) (fun b hb y => ⟨hY b hb y, fun e => ha (y.symm.trans e), fun e => hn (y.symm.trans e)⟩), fun z hz => Nat.lt_of_lt_of_le (h.en.st.xlt z hz) e.size⟩, ?_, h.en.xe, h.en.xm, h.en.ma, h.en.mn, ?_⟩, ?_, h.bxn, h.kids.ext e (Nat.le_refl _) hY, h.hx, h.node⟩
  · obtain ⟨a, b, c, ee⟩ := h.en.eng
    exact ⟨a, b, c, (e.block eb h.en.lb (fun q => h.en.xe (by rw [show eb = D from q]; exact hD))).trans ee⟩
  · obtain ⟨get, ks, hM, hk⟩ := h.en.memo
    exact ⟨get, ks, hM.ext e h.en.lm (fun q => hm q.symm), hk⟩
  · exact (e.block bx (heap_lt h.box) (fun q => h.bxn (by rw [show bx = D from q]; exact hD))).trans h.box

theorem CS.drop {bx : Nat} {x : Int} {nd : Nd} {sv kv : Value} {X : Nat → Prop} {w : World} {eb mb ab nb : Nat} {lim : Int} {A : List Nd} (h : CS bx x nd sv kv X w eb mb ab nb lim A) {D : Nat} (ha : D ≠ ab) (hn : D ≠ nb) (hm : D ≠ mb) : CS bx x nd sv kv (fun b => X b ∧ b ≠ D) w eb mb ab nb lim A := by
  obtain ⟨cap, S, h1, h2, h3, h5⟩ := h.en.st.ar.ex
  have hs : ∀ b, b < w.heap.size → (X b ∧ b ≠ D) → X b := fun _ _ e => e.1
  exact ⟨⟨⟨⟨h.en.st.ar.wf, h.en.st.ar.len, ⟨h.en.st.ar.xa, ha.symm⟩, ⟨h.en.st.ar.xn, hn.symm⟩, h.en.st.ar.ne, ⟨fun e => h.en.st.ar.er.1 e.1, h.en.st.ar.er.2⟩, cap, S, h1, h2, h3, fun i hi hi' => ⟨(h5 i hi hi').1.more hs, (h5 i hi hi').2.more hs⟩⟩, fun z hz => h.en.st.xlt z hz.1⟩, h.en.eng, fun e => h.en.xe e.1, ⟨h.en.xm, hm.symm⟩, h.en.ma, h.en.mn, h.en.memo⟩, h.box, fun e => h.bxn e.1, h.kids.more hs, h.hx, h.node⟩

def rowD (ds : List Int) (n : Nat) : List Value := ds.map encI ++ List.replicate (n - ds.length) (.int .i64 0)

theorem rowD_len (ds : List Int) (n : Nat) (h : ds.length ≤ n) : (rowD ds n).length = n := by simp [rowD]; omega
theorem rowD_put (ds : List Int) (n : Nat) (h : ds.length < n) (z : Int) : (rowD ds n).toArray.setIfInBounds ds.length (.int .i64 z) = (rowD (ds ++ [z]) n).toArray := by
  rw [List.setIfInBounds_toArray]
  congr 1
  unfold rowD
  obtain ⟨m, hm⟩ : ∃ m, n - ds.length = m + 1 := ⟨n - ds.length - 1, by omega⟩
  have hm2 : n - (ds ++ [z]).length = m := by simp; omega
  rw [hm, hm2, List.replicate_succ]
  rw [List.set_append_right _ _ (by simp)]
  simp

/-- What the loop over the kids keeps. -/
structure DL (w : World) (D n bx : Nat) (c x : Int) (nd : Nd) (sv kv : Value) (X : Nat → Prop) (eb mb ab nb : Nat) (lim : Int) (A : List Nd) (k : Nat) (X' : Nat → Prop) (wr : World) (nb' : Nat) (A' : List Nd) (ds : List Int) : Prop where
  le : Le A A'
  ext : Ext w.heap.size (fun b => b = ab ∨ b = nb ∨ b = mb) w wr
  nbs : nb' = nb ∨ w.heap.size ≤ nb'
  sub : ∀ b, b < w.heap.size → (X' b ↔ X b)
  cs : CS bx x nd sv kv X' wr eb mb ab nb' lim A'
  xd : X' D
  dn : D ≠ nb'
  row : wr.heap[D]? = some (.cells (rowD ds n).toArray 28 (0, 0))
  len : ds.length = k
  ders : ∀ i, i < k → Der A' c (kid nd i) (ds.getD i 0)

theorem DL.step {w : World} {D n bx : Nat} {c x : Int} {nd : Nd} {sv kv : Value} {X : Nat → Prop} {eb mb ab nb : Nat} {lim : Int} {A : List Nd} {k : Nat} {X' X1 : Nat → Prop} {wr w1 : World} {nb' nb1 : Nat} {A' A1 : List Nd} {ds : List Int} {z : Int}
    (h : DL w D n bx c x nd sv kv X eb mb ab nb lim A k X' wr nb' A' ds) (hw : w.heap.size ≤ D) (ha : D ≠ ab) (hm : D ≠ mb) (hk : k < n) (hn : nd.kids.length = n) (hg : GrE X' wr eb mb ab nb' lim A' X1 w1 nb1 A1) (hd : Der A1 c (kid nd k) z) :
    DL w D n bx c x nd sv kv X eb mb ab nb lim A (k + 1) X1 (w1.setCell ⟨D, k, none⟩ (.int .i64 z)) nb1 A1 (ds ++ [z]) := by
  have lD := heap_lt h.row
  have hdn : D ≠ nb1 := by
    rcases hg.nbs with e | e
    · rw [e]; exact h.dn
    · omega
  have hD1 : X1 D := (hg.sub D lD).2 h.xd
  have hrow : w1.heap[D]? = wr.heap[D]? := hg.ext.block D lD (fun e => by
    rcases e with e | e | e
    · exact ha e
    · exact h.dn e
    · exact hm e)
  refine ⟨h.le.trans hg.le, ?_, ?_, fun b hb => (hg.sub b (Nat.lt_of_lt_of_le hb h.ext.size)).trans (h.sub b hb), (h.cs.step hg).put hD1 ha hdn hm _, hD1, hdn, ?_, by simp [h.len], fun i hi => ?_⟩
  · refine (h.ext.trans hg.ext h.ext.size (fun i hi e => ?_)).setCell (Or.inl hw) _
    rcases e with e | e | e
    · exact Or.inl e
    · rcases h.nbs with e2 | e2
      · exact Or.inr (Or.inl (e.trans e2))
      · omega
    · exact Or.inr (Or.inr e)
  · rcases hg.nbs with e | e
    · rw [e]; exact h.nbs
    · exact Or.inr (Nat.le_trans h.ext.size e)
  · simp only [World.setCell, Array.getElem?_modify, hrow, h.row]
    have := rowD_put ds n (by rw [h.len]; exact hk) z
    rw [h.len] at this
    simp [this]
  · by_cases e : i < k
    · have hv : Valid A' (kid nd i) := by
        have := (kid_valid h.cs.en.st.ar.wf h.cs.hx (i := i) (by rw [h.cs.node]; omega)).1
        rwa [h.cs.node] at this
      have e1 : (ds ++ [z]).getD i 0 = ds.getD i 0 := by
        simp only [List.getD]
        rw [List.getElem?_append_left (by rw [h.len]; exact e)]
      rw [e1]
      exact (h.ders i e).le h.cs.en.st.ar.wf hg.en.st.ar.wf hg.le hv
    · have e2 : i = k := by omega
      subst e2
      have e1 : (ds ++ [z]).getD i 0 = z := by simp [List.getD, ← h.len]
      rw [e1]
      exact hd

theorem made_row (n : Nat) : madeCells #[Value.int .i64 0] n = (rowD [] n).toArray := by
  apply Array.ext_getElem?
  intro j
  by_cases h : j < n
  · rw [made_get _ _ _ h]; simp [rowD, h]
  · rw [Array.getElem?_eq_none (by simp [madeCells]; omega)]
    simp [rowD]; omega

theorem row_ints {X : Nat → Prop} {w : World} {D : Nat} {ds : List Int} (h : w.heap[D]? = some (.cells (rowD ds ds.length).toArray 28 (0, 0))) (hX : ¬ X D) (hl : ds.length ≤ maxLen) : Ints X w (.slice (some ⟨D, 0, none⟩) ds.length ds.length) ds :=
  ⟨_, _, rfl, Nat.le_refl _, hl, fun _ => ⟨D, 0, rfl, hX, fun j hj => by rw [box_cell h]; simp [rowD, hj]⟩⟩

set_option maxHeartbeats 4000000 in
theorem comp5 {c x : Int} {nd : Nd} {sv kv : Value} {X : Nat → Prop} {w : World} {eb mb ab nb : Nat} {lim : Int} {A : List Nd} (ih : IHD c x eb mb ab lim) (hE : En X w eb mb ab nb lim A) (hlim : lim ≤ 65536) (hx : Valid A x) (hnode : nodeAt A x = nd) (hk : Ints X w kv nd.kids) (h5 : nd.kind = 5) :
    Calls Tryz.prog 116 #[.pointer (some ⟨eb, 0, none⟩), .int .i64 x, .agg #[.int .i64 nd.kind, sv, kv, .int .i64 nd.lo, .int .i64 nd.hi], .int .i64 c] w (DPost c x X w eb mb ab nb lim A) := by
  have hok := hE.st.ar.wf.at hx
  rw [hnode] at hok
  have hfew := few64 hE.st.ar.wf hE.st.ar.len hx
  rw [hnode] at hfew
  have C0 := CS.start (sv := sv) hE hx hnode hk
  obtain ⟨ka, kc, rfl, k1, k2, k3⟩ := hk
  obtain ⟨g, o, rfl, hxg, hc⟩ := k3 (hok.many (by omega))
  clear k3 hc
  generalize hn' : nd.kids.length = n at *
  have hn : n = nd.kids.length := hn'.symm
  clear hn'
  obtain ⟨f0, f1, f2, f3, f4, f5⟩ := C0.facts
  have HC0 := hideIt C0
  have HIH := hideIt ih
  have H5 := hideIt h5
  have Hn := hideIt hn
  have la := hE.st.ar.la
  have lm := hE.lm
  have ln := hE.st.xlt nb hE.st.ar.xn
  have Hxn : Hid (∀ b, w.heap.size ≤ b → ¬ X b) := fun b hb hx => by have := hE.st.xlt b hx; omega
  have b4 : (nd.kind == 4) = false := by rw [h5]; rfl
  have b5 : (nd.kind == 5) = true := by rw [h5]; rfl
  have b6 : (nd.kind == 6) = false := by rw [h5]; rfl
  have HD0 : Hid (DL w (w.heap.size + 1) n w.heap.size c x nd sv (.slice (some ⟨g, o, none⟩) n kc) X eb mb ab nb lim A 0 (fun b => X b ∨ b = (w.alloc (.cells #[.int .i64 nd.kind, sv, .slice (some ⟨g, o, none⟩) n kc, .int .i64 nd.lo, .int .i64 nd.hi] 110)).heap.size) ((w.alloc (.cells #[.int .i64 nd.kind, sv, .slice (some ⟨g, o, none⟩) n kc, .int .i64 nd.lo, .int .i64 nd.hi] 110)).alloc (.cells (madeCells #[.int .i64 0] n) 28)) nb A []) := by
    have sz : ∀ o : Obj, (w.alloc o).heap.size = w.heap.size + 1 := fun o => Deep.nblk_alloc w o
    refine ⟨Le.refl _, ((Ext.of_below (alloc_below _) _).andThen (alloc_below _) (by rw [sz]; omega)), Or.inl rfl, fun b hb => ⟨fun h => h.elim id (fun e => by rw [sz] at e; omega), Or.inl⟩, HC0.out.addNew _, Or.inr (sz _).symm, by omega, ?_, rfl, fun i hi => by omega⟩
    rw [← sz (.cells #[.int .i64 nd.kind, sv, .slice (some ⟨g, o, none⟩) n kc, .int .i64 nd.lo, .int .i64 nd.hi] 110), heap_new, made_row]
  clear ih hE hx hnode hok C0 h5 hxg hn
  have hm1 := run_make_row' (P := Tryz.prog) 37 28 (.int .i64 0) 8 Tryz.underlying37 info_id rfl .i64 .i64 n (by omega) (by omega)
  go_enter Tryz.func116, Tryz.ntmps116
  go_wp2_with fail
  go_loopw [101] (fun i wr => ∃ (k : Nat) (X' : Nat → Prop) (nb' : Nat) (A' : List Nd) (ds : List Int), k ≤ n ∧ i = .int .i64 k ∧ DL w (w.heap.size + 1) n w.heap.size c x nd sv (.slice (some ⟨g, o, none⟩) n kc) X eb mb ab nb lim A k X' wr nb' A' ds) (fun i _ => n - (intOf i).toNat)
  case atStart => exact ⟨0, _, _, _, _, by omega, rfl, HD0.out⟩
  case round =>
    obtain ⟨k, X', nb', A', ds, hk, rfl, hD⟩ := hrel
    obtain ⟨p0, p1, p2, p3, p4, p5⟩ := hD.cs.facts
    have hwr : w.heap.size + 1 < wr.heap.size := heap_lt hD.row
    by_cases hlt : k < n
    · have hlt' : (k : Int) < (n : Int) := by omega
      have hkl : k < nd.kids.length := by have := Hn.out; omega
      obtain ⟨q0, q1, q2⟩ := hD.cs.kid (j := k) hkl
      have eg : kid nd k = nd.kids[k] := getD_lt hkl _
      have Hq1 := hideIt q1
      have Hq2 := hideIt q2
      have Heg := hideIt eg
      have HD := hideIt hD
      have hlk := hD.len
      generalize nd.kids[k] = y at *
      clear q1 q2 eg hD
      go_wp2_with fail
      go_at_call 75
      refine (HIH.out y Hq2.out X' _ nb' A' HD.out.cs.en Hq1.out).mono ?_
      rintro e w1 ⟨X1, nb1, A1, z1, ev1, hg1, rfl, hh1⟩
      have hrow : w1.heap[w.heap.size + 1]? = wr.heap[w.heap.size + 1]? := hg1.ext.block _ hwr (fun e => by
        rcases e with e | e | e
        · omega
        · exact HD.out.dn e
        · omega)
      have hrow := hrow.trans HD.out.row
      have c1 := box_cell hrow k
      have lr := rowD_len ds n (by omega)
      have c2 : ∃ u, w1.cell? ⟨w.heap.size + 1, k, none⟩ = some u := by
        rw [c1]
        exact ⟨_, Array.getElem?_eq_getElem (by simp [lr]; omega)⟩
      obtain ⟨u, c2⟩ := c2
      have fz : w1.frozen? ⟨w.heap.size + 1, k, none⟩ = false := by simp [World.frozen?, hrow]
      have HG1 := hideIt hg1
      clear c1 hrow hg1
      rcases hh1 with ⟨rfl, hd1⟩ | ⟨⟨t1, v1, rfl⟩, rfl, hf1⟩
      · go_wp2_with fail
        go_roundw
        case rel => exact ⟨k + 1, X1, nb1, A1, _, by omega, by go_num, HD.out.step (by omega) (by omega) (by omega) hlt Hn.out.symm HG1.out (by rw [Heg.out]; exact hd1)⟩
        case measure => simp [intOf]; omega
      · go_wp2_with fail
        go_ret2
        have C1 := (HD.out.cs.step HG1.out).drop (D := w.heap.size + 1) (by omega) (by
          rcases HG1.out.nbs with e | e
          · rw [e]; exact HD.out.dn
          · omega) (by omega)
        refine ⟨_, nb1, A1, 0, _, ⟨C1.en, HD.out.le.trans HG1.out.le, HD.out.ext.trans HG1.out.ext HD.out.ext.size (fun i hi e => ?_), ?_, fun b hb => ?_⟩, rfl, Or.inr ⟨⟨t1, v1, rfl⟩, rfl, hf1⟩⟩
        · rcases e with e | e | e
          · exact Or.inl e
          · rcases HD.out.nbs with e2 | e2
            · exact Or.inr (Or.inl (e.trans e2))
            · omega
          · exact Or.inr (Or.inr e)
        · rcases HG1.out.nbs with e | e
          · rw [e]; exact HD.out.nbs
          · exact Or.inr (Nat.le_trans HD.out.ext.size e)
        · exact ⟨fun h => (HD.out.sub b hb).1 ((HG1.out.sub b (by omega)).1 h.1), fun h => ⟨(HG1.out.sub b (by omega)).2 ((HD.out.sub b hb).2 h), by omega⟩⟩
    · obtain rfl : k = n := by omega
      have hlk := hD.len
      have C1 := hD.cs.drop (D := w.heap.size + 1) (by omega) hD.dn (by omega)
      have hI := row_ints (X := fun b => X' b ∧ b ≠ w.heap.size + 1) (w := wr) (D := w.heap.size + 1) (ds := ds) (by rw [hlk]; exact hD.row) (fun e => e.2 rfl) (by unfold maxLen; omega)
      rw [hlk] at hI
      have HV : Hid (∀ v ∈ ds, Valid A' v) := fun v hv => by
        obtain ⟨i, hi, rfl⟩ := List.getElem_of_mem hv
        have h1 := hD.ders i (by omega)
        rw [getD_lt hi] at h1
        refine h1.valid hD.cs.en.st.ar.wf ?_
        have := (kid_valid hD.cs.en.st.ar.wf hD.cs.hx (i := i) (by rw [hD.cs.node]; have := Hn.out; omega)).1
        rwa [hD.cs.node] at this
      have HI := hideIt hI
      have HC1 := hideIt C1
      have HD := hideIt hD
      have HGr : Hid (GrE X w eb mb ab nb lim A (fun b => X' b ∧ b ≠ w.heap.size + 1) wr nb' A') := ⟨C1.en, hD.le, hD.ext, hD.nbs, fun b hb => ⟨fun h => (hD.sub b hb).1 h.1, fun h => ⟨(hD.sub b hb).2 h, by omega⟩⟩⟩
      clear hD C1 hI
      go_wp2_with (go_at_call 103; refine (union_walk HC1.out.en.st hlim HI.out HV.out (by omega)).mono ?_; rintro e w2 ⟨X2, nb2, A2, z2, ev2, hG2, rfl, hh2⟩)
      go_ret2
      have g2 := HC1.out.en.grow hG2
      have C2 := HC1.out.step g2
      refine ⟨X2, nb2, A2, z2, ev2, HGr.out.trans g2, rfl, hh2.imp (fun h => ⟨h.1, ?_⟩) id⟩
      refine Der.uni (by rw [C2.node]; exact H5.out) ds (by rw [C2.node]; have := Hn.out; omega) (fun i hi => ?_) (by rw [unionN_le g2.le HV.out]; exact h.2)
      rw [C2.node]
      refine (HD.out.ders i (by omega)).le HC1.out.en.st.ar.wf C2.en.st.ar.wf g2.le ?_
      have := (kid_valid HC1.out.en.st.ar.wf HC1.out.hx (i := i) (by rw [HC1.out.node]; have := Hn.out; omega)).1
      rwa [HC1.out.node] at this

set_option maxHeartbeats 4000000 in
theorem comp6 {c x : Int} {nd : Nd} {sv kv : Value} {X : Nat → Prop} {w : World} {eb mb ab nb : Nat} {lim : Int} {A : List Nd} (ih : IHD c x eb mb ab lim) (hE : En X w eb mb ab nb lim A) (hlim : lim ≤ 65536) (hx : Valid A x) (hnode : nodeAt A x = nd) (hk : Ints X w kv nd.kids) (h6 : nd.kind = 6) :
    Calls Tryz.prog 116 #[.pointer (some ⟨eb, 0, none⟩), .int .i64 x, .agg #[.int .i64 nd.kind, sv, kv, .int .i64 nd.lo, .int .i64 nd.hi], .int .i64 c] w (DPost c x X w eb mb ab nb lim A) := by
  have hok := hE.st.ar.wf.at hx
  rw [hnode] at hok
  have hfew := few64 hE.st.ar.wf hE.st.ar.len hx
  rw [hnode] at hfew
  have C0 := CS.start (sv := sv) hE hx hnode hk
  obtain ⟨ka, kc, rfl, k1, k2, k3⟩ := hk
  obtain ⟨g, o, rfl, hxg, hc⟩ := k3 (hok.many (by omega))
  clear k3 hc
  generalize hn' : nd.kids.length = n at *
  have hn : n = nd.kids.length := hn'.symm
  clear hn'
  obtain ⟨f0, f1, f2, f3, f4, f5⟩ := C0.facts
  have HC0 := hideIt C0
  have HIH := hideIt ih
  have H6 := hideIt h6
  have Hn := hideIt hn
  have la := hE.st.ar.la
  have lm := hE.lm
  have ln := hE.st.xlt nb hE.st.ar.xn
  have Hxn : Hid (∀ b, w.heap.size ≤ b → ¬ X b) := fun b hb hx => by have := hE.st.xlt b hx; omega
  have b4 : (nd.kind == 4) = false := by rw [h6]; rfl
  have b5 : (nd.kind == 5) = false := by rw [h6]; rfl
  have b6 : (nd.kind == 6) = true := by rw [h6]; rfl
  have HD0 : Hid (DL w (w.heap.size + 1) n w.heap.size c x nd sv (.slice (some ⟨g, o, none⟩) n kc) X eb mb ab nb lim A 0 (fun b => X b ∨ b = (w.alloc (.cells #[.int .i64 nd.kind, sv, .slice (some ⟨g, o, none⟩) n kc, .int .i64 nd.lo, .int .i64 nd.hi] 110)).heap.size) ((w.alloc (.cells #[.int .i64 nd.kind, sv, .slice (some ⟨g, o, none⟩) n kc, .int .i64 nd.lo, .int .i64 nd.hi] 110)).alloc (.cells (madeCells #[.int .i64 0] n) 28)) nb A []) := by
    have sz : ∀ o : Obj, (w.alloc o).heap.size = w.heap.size + 1 := fun o => Deep.nblk_alloc w o
    refine ⟨Le.refl _, ((Ext.of_below (alloc_below _) _).andThen (alloc_below _) (by rw [sz]; omega)), Or.inl rfl, fun b hb => ⟨fun h => h.elim id (fun e => by rw [sz] at e; omega), Or.inl⟩, HC0.out.addNew _, Or.inr (sz _).symm, by omega, ?_, rfl, fun i hi => by omega⟩
    rw [← sz (.cells #[.int .i64 nd.kind, sv, .slice (some ⟨g, o, none⟩) n kc, .int .i64 nd.lo, .int .i64 nd.hi] 110), heap_new, made_row]
  clear ih hE hx hnode hok C0 h6 hxg hn
  have hm1 := run_make_row' (P := Tryz.prog) 37 28 (.int .i64 0) 8 Tryz.underlying37 info_id rfl .i64 .i64 n (by omega) (by omega)
  go_enter Tryz.func116, Tryz.ntmps116
  go_wp2_with fail
  go_loopw [101] (fun i wr => ∃ (k : Nat) (X' : Nat → Prop) (nb' : Nat) (A' : List Nd) (ds : List Int), k ≤ n ∧ i = .int .i64 k ∧ DL w (w.heap.size + 1) n w.heap.size c x nd sv (.slice (some ⟨g, o, none⟩) n kc) X eb mb ab nb lim A k X' wr nb' A' ds) (fun i _ => n - (intOf i).toNat)
  case atStart => exact ⟨0, _, _, _, _, by omega, rfl, HD0.out⟩
  case round =>
    obtain ⟨k, X', nb', A', ds, hk, rfl, hD⟩ := hrel
    obtain ⟨p0, p1, p2, p3, p4, p5⟩ := hD.cs.facts
    have hwr : w.heap.size + 1 < wr.heap.size := heap_lt hD.row
    by_cases hlt : k < n
    · have hlt' : (k : Int) < (n : Int) := by omega
      have hkl : k < nd.kids.length := by have := Hn.out; omega
      obtain ⟨q0, q1, q2⟩ := hD.cs.kid (j := k) hkl
      have eg : kid nd k = nd.kids[k] := getD_lt hkl _
      have Hq1 := hideIt q1
      have Hq2 := hideIt q2
      have Heg := hideIt eg
      have HD := hideIt hD
      have hlk := hD.len
      generalize nd.kids[k] = y at *
      clear q1 q2 eg hD
      go_wp2_with fail
      go_at_call 75
      refine (HIH.out y Hq2.out X' _ nb' A' HD.out.cs.en Hq1.out).mono ?_
      rintro e w1 ⟨X1, nb1, A1, z1, ev1, hg1, rfl, hh1⟩
      have hrow : w1.heap[w.heap.size + 1]? = wr.heap[w.heap.size + 1]? := hg1.ext.block _ hwr (fun e => by
        rcases e with e | e | e
        · omega
        · exact HD.out.dn e
        · omega)
      have hrow := hrow.trans HD.out.row
      have c1 := box_cell hrow k
      have lr := rowD_len ds n (by omega)
      have c2 : ∃ u, w1.cell? ⟨w.heap.size + 1, k, none⟩ = some u := by
        rw [c1]
        exact ⟨_, Array.getElem?_eq_getElem (by simp [lr]; omega)⟩
      obtain ⟨u, c2⟩ := c2
      have fz : w1.frozen? ⟨w.heap.size + 1, k, none⟩ = false := by simp [World.frozen?, hrow]
      have HG1 := hideIt hg1
      clear c1 hrow hg1
      rcases hh1 with ⟨rfl, hd1⟩ | ⟨⟨t1, v1, rfl⟩, rfl, hf1⟩
      · go_wp2_with fail
        go_roundw
        case rel => exact ⟨k + 1, X1, nb1, A1, _, by omega, by go_num, HD.out.step (by omega) (by omega) (by omega) hlt Hn.out.symm HG1.out (by rw [Heg.out]; exact hd1)⟩
        case measure => simp [intOf]; omega
      · go_wp2_with fail
        go_ret2
        have C1 := (HD.out.cs.step HG1.out).drop (D := w.heap.size + 1) (by omega) (by
          rcases HG1.out.nbs with e | e
          · rw [e]; exact HD.out.dn
          · omega) (by omega)
        refine ⟨_, nb1, A1, 0, _, ⟨C1.en, HD.out.le.trans HG1.out.le, HD.out.ext.trans HG1.out.ext HD.out.ext.size (fun i hi e => ?_), ?_, fun b hb => ?_⟩, rfl, Or.inr ⟨⟨t1, v1, rfl⟩, rfl, hf1⟩⟩
        · rcases e with e | e | e
          · exact Or.inl e
          · rcases HD.out.nbs with e2 | e2
            · exact Or.inr (Or.inl (e.trans e2))
            · omega
          · exact Or.inr (Or.inr e)
        · rcases HG1.out.nbs with e | e
          · rw [e]; exact HD.out.nbs
          · exact Or.inr (Nat.le_trans HD.out.ext.size e)
        · exact ⟨fun h => (HD.out.sub b hb).1 ((HG1.out.sub b (by omega)).1 h.1), fun h => ⟨(HG1.out.sub b (by omega)).2 ((HD.out.sub b hb).2 h), by omega⟩⟩
    · obtain rfl : k = n := by omega
      have hlk := hD.len
      have C1 := hD.cs.drop (D := w.heap.size + 1) (by omega) hD.dn (by omega)
      have hI := row_ints (X := fun b => X' b ∧ b ≠ w.heap.size + 1) (w := wr) (D := w.heap.size + 1) (ds := ds) (by rw [hlk]; exact hD.row) (fun e => e.2 rfl) (by unfold maxLen; omega)
      rw [hlk] at hI
      have HV : Hid (∀ v ∈ ds, Valid A' v) := fun v hv => by
        obtain ⟨i, hi, rfl⟩ := List.getElem_of_mem hv
        have h1 := hD.ders i (by omega)
        rw [getD_lt hi] at h1
        refine h1.valid hD.cs.en.st.ar.wf ?_
        have := (kid_valid hD.cs.en.st.ar.wf hD.cs.hx (i := i) (by rw [hD.cs.node]; have := Hn.out; omega)).1
        rwa [hD.cs.node] at this
      have HI := hideIt hI
      have HC1 := hideIt C1
      have HD := hideIt hD
      have HGr : Hid (GrE X w eb mb ab nb lim A (fun b => X' b ∧ b ≠ w.heap.size + 1) wr nb' A') := ⟨C1.en, hD.le, hD.ext, hD.nbs, fun b hb => ⟨fun h => (hD.sub b hb).1 h.1, fun h => ⟨(hD.sub b hb).2 h, by omega⟩⟩⟩
      clear hD C1 hI
      go_wp2_with (go_at_call 104; refine (inter_walk HC1.out.en.st hlim HI.out HV.out (by omega)).mono ?_; rintro e w2 ⟨X2, nb2, A2, z2, ev2, hG2, rfl, hh2⟩)
      go_ret2
      have g2 := HC1.out.en.grow hG2
      have C2 := HC1.out.step g2
      refine ⟨X2, nb2, A2, z2, ev2, HGr.out.trans g2, rfl, hh2.imp (fun h => ⟨h.1, ?_⟩) id⟩
      refine Der.int (by rw [C2.node]; exact H6.out) ds (by rw [C2.node]; have := Hn.out; omega) (fun i hi => ?_) (by rw [interN_le g2.le HV.out]; exact h.2)
      rw [C2.node]
      refine (HD.out.ders i (by omega)).le HC1.out.en.st.ar.wf C2.en.st.ar.wf g2.le ?_
      have := (kid_valid HC1.out.en.st.ar.wf HC1.out.hx (i := i) (by rw [HC1.out.node]; have := Hn.out; omega)).1
      rwa [HC1.out.node] at this

end Go.Proofs.Qxb6500848aGreatDoor
