/-
  take of long rows.
-/
import Derived.Test.Qxb6500847aGreatDoorOsG
namespace Go.Proofs.Qxb6500847aGreatDoor.Os
open Go.RowKit FloorA
set_option maxRecDepth 100000
theorem zrow0 : Tryz.zeroCells101 = (rowL 0 (fun _ => 0)).toArray := by kernel_rfl
theorem zrow1 : (#[Value.int IntKind.u8 0, Value.int IntKind.u8 0, Value.int IntKind.u16 0, Value.int IntKind.u32 0, Value.int IntKind.u16 0, Value.int IntKind.u16 0, Value.int IntKind.u16 0, Value.int IntKind.u32 0, Value.int IntKind.u32 0, Value.int IntKind.u16 0, Value.int IntKind.u32 0, Value.int IntKind.u16 0, Value.int IntKind.u32 0, Value.int IntKind.u64 0, Value.int IntKind.u8 0, Value.int IntKind.u64 0, Value.int IntKind.u64 0, Value.int IntKind.u64 0, Value.int IntKind.u64 0, Value.int IntKind.u8 0, Value.int IntKind.u32 0, Value.int IntKind.u32 0] : Array Value) = (rowL 1 (fun _ => 0)).toArray := by kernel_rfl
theorem one0 (W : Nat → Int) : ∀ v ∈ rowL 0 W, v.oneCell' = true := by
  intro v hv
  simp only [rowL, List.mem_flatMap, cellL, lo, hi, List.mem_cons, List.not_mem_nil, or_false] at hv
  obtain ⟨c, _, hv⟩ := hv
  rcases hv with rfl | rfl | rfl | rfl | rfl | rfl | rfl | rfl <;> rfl
theorem one1 (W : Nat → Int) : ∀ v ∈ rowL 1 W, v.oneCell' = true := by
  intro v hv
  simp only [rowL, lo, hi, List.mem_cons, List.not_mem_nil, or_false] at hv
  rcases hv with rfl | rfl | rfl | rfl | rfl | rfl | rfl | rfl | rfl | rfl | rfl | rfl | rfl | rfl | rfl | rfl | rfl | rfl | rfl | rfl | rfl | rfl <;> rfl
theorem size0 : (Tryz.prog.info? 101).map (·.size) = some 128 := by kernel_rfl
theorem size1 : (Tryz.prog.info? 109).map (·.size) = some 22 := by kernel_rfl
section
variable {P : Program} {ops : Array Oper} {md : Region.Mode} {Q : Exit → Act → World → Prop} {fuel : Nat} {listed : Array Bool} {a : Act} {w : World}
theorem anyH_do {S : World → Prop} {i : Nat} {d : Option Nat} {v : Value} {E : Sem Next} (hw : (ops[i]?.map fun o => (o.dst, Region.wanted o (yielded ops a.tmps), execOp a.eval o)) = some (d, true, E)) (hs : Region.noSelect ops = true) (hf : Region.free md ops listed i = true) (hr : (Region.ready md ops listed).contains i = true)
    (hQ : ∀ c a w, Q (.panic c) (a.put d v) w → Q (.panic c) a w) (hv : ∀ w, S w → E.run P w = .ok (.value v) w) (hS : S w) (h : wpAnyH P md ops Q S fuel (listed.setIfInBounds i true) (a.put d v) w) : wpAnyH P md ops Q S (fuel + 1) listed a w := by
  obtain ⟨o, ho, e⟩ := Option.map_eq_some_iff.1 hw
  simp only [Prod.mk.injEq] at e
  obtain ⟨rfl, e2, rfl⟩ := e
  exact wpAnyH_take ho hs hf hr hQ (Or.inl ⟨e2, hv⟩) hS h
/-- A whole struct is loaded. -/
theorem anyH_load {S : World → Prop} {i : Nat} {d : Option Nat} {ty : TypeId} {x : Operand} {b o : Nat} {cs : List Value} {dd : TypeDesc} (hw : (ops[i]?.map fun o => (o.dst, Region.wanted o (yielded ops a.tmps), o.op)) = some (d, true, .load ty x)) (hx : a.eval x = .pointer (some ⟨b, o, none⟩)) (hs : Region.noSelect ops = true) (hf : Region.free md ops listed i = true) (hr : (Region.ready md ops listed).contains i = true)
    (hQ : ∀ c a w, Q (.panic c) (a.put d (.agg cs.toArray)) w → Q (.panic c) a w) (hc : ∀ w, S w → w.rangeAt b o cs) (hu : P.underlying ty = some dd) (hd : dd.isRow = true) (hi : (P.info? ty).map (·.size) = some cs.length) (hS : S w) (h : wpAnyH P md ops Q S fuel (listed.setIfInBounds i true) (a.put d (.agg cs.toArray)) w) : wpAnyH P md ops Q S (fuel + 1) listed a w := by
  obtain ⟨oo, ho, e⟩ := Option.map_eq_some_iff.1 hw
  simp only [Prod.mk.injEq] at e
  obtain ⟨rfl, e2, e3⟩ := e
  exact wpAnyH_take ho hs hf hr hQ (yieldsIf_load_mid e2 ty x e3 b o hx cs dd hc hu hd hi) hS h
/-- The last operation stores a whole struct. -/
theorem anyH_store {S : World → Prop} {i : Nat} {ty : TypeId} {x y : Operand} {b o : Nat} {cs : List Value} (hw : (ops[i]?.map fun o => (o.dst, Region.wanted o (yielded ops a.tmps), o.op)) = some (none, true, .store ty x y)) (hx : a.eval x = .pointer (some ⟨b, o, none⟩)) (hy : a.eval y = .agg cs.toArray) (hr : Region.ready md ops listed = [i]) (hr2 : Region.ready md ops (listed.setIfInBounds i true) = [])
    (ht : w.there b o cs.length) (hi : (P.info? ty).map (·.size) = some cs.length) (h1 : ∀ v ∈ cs, v.oneCell' = true) (hS : S (w.setCells b o cs)) (hq : Q .normal a (w.setCells b o cs)) : wpAnyH P md ops Q S (fuel + 1) listed a w := by
  obtain ⟨oo, ho, e⟩ := Option.map_eq_some_iff.1 hw
  simp only [Prod.mk.injEq] at e
  obtain ⟨e1, e2, e3⟩ := e
  refine wpAnyH_all hr (by simp) (fun j hj => ?_)
  rw [List.mem_singleton.1 hj]
  refine wpOp_step ho (fun K hK => ?_)
  rw [if_pos e2]
  refine wp_store_mid ty x y e3 b o cs.toArray hx hy (by simpa using ht) (by simpa using hi) (all_oneCell_toArray h1) ?_
  have ea : a.put oo.dst undef = a := by rw [e1]; rfl
  rw [ea]
  exact hK _ _ ⟨by simpa using hS, wpAnyH_done hr2 (by simpa using hq) _⟩
end
section
variable {A : Nat} {rb sb : Nat → Nat} {s s' : Av} {tl : Nat → List Int} {ws : Nat → Nat → Nat → Int} {w w' : World}

set_option maxHeartbeats 4000000 in
theorem take_walk0 (h : Ms w A rb sb s tl ws) {l : List Int} {r : Nat} (hl : tl 0 = l ++ [(r : Int)]) (hr : r < nR 0) :
    Calls Tryz.prog 289 #[.pointer (some ⟨A, 2886, none⟩)] w (TkPost 0 r l A rb sb s tl ws w) := by
  have hc := h.tic (t := 0) (by omega)
  have hd := h.trc (t := 0) (by omega)
  have hn := h.tn 0 (by omega)
  have hL : (tl 0).length = l.length + 1 := by rw [hl]; simp
  have hx : w.cell? ⟨sb 0, l.length, none⟩ = some (.int .u16 (r : Int)) := by
    obtain ⟨x, hx, k⟩ := h.idc 0 (by omega) l.length (by omega)
    rw [hx, k (by omega)]
    have : (tl 0)[l.length]'(by omega) = (r : Int) := by simp [hl]
    rw [this]
  have HM := hideIt h
  have hz := h.am.free 2887
  have la := h.am.lt
  rw [hL] at hc
  simp only [nR, Nat.reduceMul, Nat.reduceAdd, Nat.add_zero] at hc hd hr
  have hln : l.length + 1 ≤ 64 := by rw [hL] at hn; simpa [nR] using hn
  have e1 : (r : Int) < 64 := by omega
  have Hl : Hid (tl 0 = l ++ [(r : Int)]) := hl
  clear h hn hL hl
  go_enter Tryz.func289, Tryz.ntmps289
  go_wp2_with fail
  go_region
  go_wp2_with fail
  go_region
  go_wp2_with fail
  rw [zrow0]
  have hM1 := ((HM.out.pop (t := 0) (by omega) Hl.out).below (alloc_below (.cells (rowL 0 (fun _ => 0)).toArray 101))).below (below_d _)
  have hM2 := hideIt (hM1.below (below_d _))
  have hE : Ext w.heap.size (Tz A rb sb) w ((w.setCell ⟨A, 2886 + 0 * 2 + 1, none⟩ (.slice (some ⟨sb 0, 0, none⟩) l.length (nR 0))).alloc (.cells (rowL 0 (fun _ => 0)).toArray 101)).drew.drew := by
    have e1 : Ext w.heap.size (Tz A rb sb) w (w.setCell ⟨A, 2886 + 0 * 2 + 1, none⟩ (.slice (some ⟨sb 0, 0, none⟩) l.length (nR 0))) := (Ext.refl _ _ _).setCell (Or.inr (Or.inl rfl)) _
    exact ((e1.andThen (alloc_below _) e1.size).drew).drew
  have HE := hideIt hE
  have hnew : ((w.setCell ⟨A, 2886 + 0 * 2 + 1, none⟩ (.slice (some ⟨sb 0, 0, none⟩) l.length (nR 0))).alloc (.cells (rowL 0 (fun _ => 0)).toArray 101)).drew.drew.heap[w.heap.size]? = some (.cells (rowL 0 (fun _ => 0)).toArray 101 (0, 0)) := new_at _ _ (by simp [World.setCell])
  have hra : ((w.setCell ⟨A, 2886 + 0 * 2 + 1, none⟩ (.slice (some ⟨sb 0, 0, none⟩) l.length (nR 0))).alloc (.cells (rowL 0 (fun _ => 0)).toArray 101)).drew.drew.rangeAt w.heap.size 0 (rowL 0 (fun _ => 0)) := fun j v hv => by
    rw [Nat.zero_add]
    exact (box_cell hnew j).trans (by simpa using hv)
  have hd1 := hM2.out.trc (t := 0) (by omega)
  have hth : ((w.setCell ⟨A, 2886 + 0 * 2 + 1, none⟩ (.slice (some ⟨sb 0, 0, none⟩) l.length (nR 0))).alloc (.cells (rowL 0 (fun _ => 0)).toArray 101)).drew.drew.there (rb 0) (r * 128) 128 := fun j hj => ⟨(hM2.out.row 0 (by omega) r hr).isSome j (by rw [rowL_len]; exact hj), hM2.out.rfz 0 (by omega) _⟩
  have HEnd := hideIt ((hM2.out.below (below_d _)).setRow (t := 0) (r := r) (by omega) hr (fun _ => 0))
  have hlt : rb 0 < w.heap.size := by
    have := hM2.out.row 0 (by omega) r hr
    have l1 : rb 0 < ((w.setCell ⟨A, 2886 + 0 * 2 + 1, none⟩ (.slice (some ⟨sb 0, 0, none⟩) l.length (nR 0))).alloc (.cells (rowL 0 (fun _ => 0)).toArray 101)).drew.drew.heap.size := by
      obtain ⟨v, hv⟩ := Option.isSome_iff_exists.1 (this.isSome 0 (by rw [rowL_len]; decide))
      exact cell_lt hv
    have ne : rb 0 ≠ w.heap.size := by
      have q := HM.out.row 0 (by omega) r hr
      obtain ⟨v, hv⟩ := Option.isSome_iff_exists.1 (q.isSome 0 (by rw [rowL_len]; decide))
      have := cell_lt hv
      exact Nat.ne_of_lt this
    have q := HM.out.row 0 (by omega) r hr
    obtain ⟨v, hv⟩ := Option.isSome_iff_exists.1 (q.isSome 0 (by rw [rowL_len]; decide))
    exact cell_lt hv
  have hnra := (HM.out.ar 0 (by omega)).1
  simp only [nR, nC, Nat.reduceMul, Nat.reduceAdd, Nat.add_zero] at hra HE hd1 hth HEnd
  have one := one0 (fun _ => 0)
  have hlen : (rowL 0 (fun _ => 0)).length = 128 := rowL_len 0 _
  have hsz : (Tryz.prog.info? 101).map (·.size) = some (rowL 0 (fun _ => 0)).length := by rw [hlen]; exact size0
  have hun := Tryz.underlying101
  clear hM1 hE hnew hM2 hc hd hx hz
  generalize ((w.setCell ⟨A, 2887, none⟩ (.slice (some ⟨sb 0, 0, none⟩) l.length 64)).alloc (.cells (rowL 0 (fun _ => 0)).toArray 101)).drew.drew = w1 at *
  generalize hcs : rowL 0 (fun _ => 0) = cs at *
  clear hcs
  refine wp_region_held_drew (S := fun w' => w'.cell? ⟨A, 2886, none⟩ = some (.slice (some ⟨rb 0, 0, none⟩) 64 64) ∧ w'.rangeAt w.heap.size 0 cs) (by kernel_rfl) ⟨hd1, by simpa using hra⟩ (fun hHeld => ?_)
  refine anyH_do (i := 0) (d := some 31) (v := (.pointer (some ⟨A, 2886, none⟩))) rfl (by kernel_rfl) (by kernel_rfl) (by kernel_rfl) (fun _ _ _ h => h) (by intro w hw; go_simp) hHeld ?_
  simp only [Act.put, List.setIfInBounds_toArray, List.set_cons_zero, List.set_cons_succ]
  refine anyH_do (i := 1) (d := some 32) (v := (.pointer (some ⟨A, 2886, none⟩))) rfl (by kernel_rfl) (by kernel_rfl) (by kernel_rfl) (fun _ _ _ h => h) (by intro w hw; go_simp) hHeld ?_
  simp only [Act.put, List.setIfInBounds_toArray, List.set_cons_zero, List.set_cons_succ]
  refine anyH_do (i := 2) (d := some 33) (v := (.pointer (some ⟨A, 2886, none⟩))) rfl (by kernel_rfl) (by kernel_rfl) (by kernel_rfl) (fun _ _ _ h => h) (by intro w hw; go_simp) hHeld ?_
  simp only [Act.put, List.setIfInBounds_toArray, List.set_cons_zero, List.set_cons_succ]
  refine anyH_do (i := 3) (d := some 34) (v := (.slice (some ⟨rb 0, 0, none⟩) 64 64)) rfl (by kernel_rfl) (by kernel_rfl) (by kernel_rfl) (fun _ _ _ h => h) (by intro w hw; go_simp) hHeld ?_
  simp only [Act.put, List.setIfInBounds_toArray, List.set_cons_zero, List.set_cons_succ]
  refine anyH_do (i := 4) (d := some 35) (v := (.int .u16 (r : Int))) rfl (by kernel_rfl) (by kernel_rfl) (by kernel_rfl) (fun _ _ _ h => h) (by intro w hw; go_simp) hHeld ?_
  simp only [Act.put, List.setIfInBounds_toArray, List.set_cons_zero, List.set_cons_succ]
  refine anyH_load (i := 5) (d := some 36) (cs := cs) rfl rfl (by kernel_rfl) (by kernel_rfl) (by kernel_rfl) (fun _ _ _ h => h) (fun _ q => q.2) hun rfl hsz hHeld ?_
  simp only [Act.put, List.setIfInBounds_toArray, List.set_cons_zero, List.set_cons_succ]
  refine anyH_do (i := 6) (d := some 37) (v := (.pointer (some ⟨rb 0, r * 128, none⟩))) rfl (by kernel_rfl) (by kernel_rfl) (by kernel_rfl) (fun _ _ _ h => h) (by intro w hw; go_simp) hHeld ?_
  simp only [Act.put, List.setIfInBounds_toArray, List.set_cons_zero, List.set_cons_succ]
  refine anyH_store (i := 7) (cs := cs) rfl rfl rfl (by kernel_rfl) (by kernel_rfl) (by rw [hlen]; simpa using hth) hsz one ?_ ?_
  · exact ⟨(World.cell?_setCells_out _ _ _ _ _ (fun e => absurd e.symm hnra)).trans hHeld.1, World.rangeAt_setCells_apart hHeld.2 _ _ _ (Or.inl (Nat.ne_of_gt hlt))⟩
  · go_wp2_with fail
    go_ret
    have e3 := HE.out.drew.trans (cells_ext _ (rb 0) cs (r * 128)) HE.out.drew.size (fun i _ q => Or.inr ⟨0, by omega, Or.inl q⟩)
    exact ⟨rfl, HEnd.out, e3⟩

set_option maxHeartbeats 4000000 in
theorem take_walk1 (h : Ms w A rb sb s tl ws) {l : List Int} {r : Nat} (hl : tl 1 = l ++ [(r : Int)]) (hr : r < nR 1) :
    Calls Tryz.prog 290 #[.pointer (some ⟨A, 2888, none⟩)] w (TkPost 1 r l A rb sb s tl ws w) := by
  have hc := h.tic (t := 1) (by omega)
  have hd := h.trc (t := 1) (by omega)
  have hn := h.tn 1 (by omega)
  have hL : (tl 1).length = l.length + 1 := by rw [hl]; simp
  have hx : w.cell? ⟨sb 1, l.length, none⟩ = some (.int .u16 (r : Int)) := by
    obtain ⟨x, hx, k⟩ := h.idc 1 (by omega) l.length (by omega)
    rw [hx, k (by omega)]
    have : (tl 1)[l.length]'(by omega) = (r : Int) := by simp [hl]
    rw [this]
  have HM := hideIt h
  have hz := h.am.free 2889
  have la := h.am.lt
  rw [hL] at hc
  simp only [nR, Nat.reduceMul, Nat.reduceAdd] at hc hd hr
  have hln : l.length + 1 ≤ 64 := by rw [hL] at hn; simpa [nR] using hn
  have e1 : (r : Int) < 64 := by omega
  have Hl : Hid (tl 1 = l ++ [(r : Int)]) := hl
  clear h hn hL hl
  go_enter Tryz.func290, Tryz.ntmps290
  go_wp2_with fail
  go_region
  go_wp2_with fail
  go_region
  go_wp2_with fail
  rw [zrow1]
  have hM1 := ((HM.out.pop (t := 1) (by omega) Hl.out).below (alloc_below (.cells (rowL 1 (fun _ => 0)).toArray 109))).below (below_d _)
  have hM2 := hideIt (hM1.below (below_d _))
  have hE : Ext w.heap.size (Tz A rb sb) w ((w.setCell ⟨A, 2886 + 1 * 2 + 1, none⟩ (.slice (some ⟨sb 1, 0, none⟩) l.length (nR 1))).alloc (.cells (rowL 1 (fun _ => 0)).toArray 109)).drew.drew := by
    have e1 : Ext w.heap.size (Tz A rb sb) w (w.setCell ⟨A, 2886 + 1 * 2 + 1, none⟩ (.slice (some ⟨sb 1, 0, none⟩) l.length (nR 1))) := (Ext.refl _ _ _).setCell (Or.inr (Or.inl rfl)) _
    exact ((e1.andThen (alloc_below _) e1.size).drew).drew
  have HE := hideIt hE
  have hnew : ((w.setCell ⟨A, 2886 + 1 * 2 + 1, none⟩ (.slice (some ⟨sb 1, 0, none⟩) l.length (nR 1))).alloc (.cells (rowL 1 (fun _ => 0)).toArray 109)).drew.drew.heap[w.heap.size]? = some (.cells (rowL 1 (fun _ => 0)).toArray 109 (0, 0)) := new_at _ _ (by simp [World.setCell])
  have hra : ((w.setCell ⟨A, 2886 + 1 * 2 + 1, none⟩ (.slice (some ⟨sb 1, 0, none⟩) l.length (nR 1))).alloc (.cells (rowL 1 (fun _ => 0)).toArray 109)).drew.drew.rangeAt w.heap.size 0 (rowL 1 (fun _ => 0)) := fun j v hv => by
    rw [Nat.zero_add]
    exact (box_cell hnew j).trans (by simpa using hv)
  have hd1 := hM2.out.trc (t := 1) (by omega)
  have hth : ((w.setCell ⟨A, 2886 + 1 * 2 + 1, none⟩ (.slice (some ⟨sb 1, 0, none⟩) l.length (nR 1))).alloc (.cells (rowL 1 (fun _ => 0)).toArray 109)).drew.drew.there (rb 1) (r * 22) 22 := fun j hj => ⟨(hM2.out.row 1 (by omega) r hr).isSome j (by rw [rowL_len]; exact hj), hM2.out.rfz 1 (by omega) _⟩
  have HEnd := hideIt ((hM2.out.below (below_d _)).setRow (t := 1) (r := r) (by omega) hr (fun _ => 0))
  have hlt : rb 1 < w.heap.size := by
    have := hM2.out.row 1 (by omega) r hr
    have l1 : rb 1 < ((w.setCell ⟨A, 2886 + 1 * 2 + 1, none⟩ (.slice (some ⟨sb 1, 0, none⟩) l.length (nR 1))).alloc (.cells (rowL 1 (fun _ => 0)).toArray 109)).drew.drew.heap.size := by
      obtain ⟨v, hv⟩ := Option.isSome_iff_exists.1 (this.isSome 0 (by rw [rowL_len]; decide))
      exact cell_lt hv
    have ne : rb 1 ≠ w.heap.size := by
      have q := HM.out.row 1 (by omega) r hr
      obtain ⟨v, hv⟩ := Option.isSome_iff_exists.1 (q.isSome 0 (by rw [rowL_len]; decide))
      have := cell_lt hv
      exact Nat.ne_of_lt this
    have q := HM.out.row 1 (by omega) r hr
    obtain ⟨v, hv⟩ := Option.isSome_iff_exists.1 (q.isSome 0 (by rw [rowL_len]; decide))
    exact cell_lt hv
  have hnra := (HM.out.ar 1 (by omega)).1
  simp only [nR, nC, Nat.reduceMul, Nat.reduceAdd] at hra HE hd1 hth HEnd
  have one := one1 (fun _ => 0)
  have hlen : (rowL 1 (fun _ => 0)).length = 22 := rowL_len 1 _
  have hsz : (Tryz.prog.info? 109).map (·.size) = some (rowL 1 (fun _ => 0)).length := by rw [hlen]; exact size1
  have hun := Tryz.underlying109
  clear hM1 hE hnew hM2 hc hd hx hz
  generalize ((w.setCell ⟨A, 2889, none⟩ (.slice (some ⟨sb 1, 0, none⟩) l.length 64)).alloc (.cells (rowL 1 (fun _ => 0)).toArray 109)).drew.drew = w1 at *
  generalize hcs : rowL 1 (fun _ => 0) = cs at *
  clear hcs
  refine wp_region_held_drew (S := fun w' => w'.cell? ⟨A, 2888, none⟩ = some (.slice (some ⟨rb 1, 0, none⟩) 64 64) ∧ w'.rangeAt w.heap.size 0 cs) (by kernel_rfl) ⟨hd1, by simpa using hra⟩ (fun hHeld => ?_)
  refine anyH_do (i := 0) (d := some 31) (v := (.pointer (some ⟨A, 2888, none⟩))) rfl (by kernel_rfl) (by kernel_rfl) (by kernel_rfl) (fun _ _ _ h => h) (by intro w hw; go_simp) hHeld ?_
  simp only [Act.put, List.setIfInBounds_toArray, List.set_cons_zero, List.set_cons_succ]
  refine anyH_do (i := 1) (d := some 32) (v := (.pointer (some ⟨A, 2888, none⟩))) rfl (by kernel_rfl) (by kernel_rfl) (by kernel_rfl) (fun _ _ _ h => h) (by intro w hw; go_simp) hHeld ?_
  simp only [Act.put, List.setIfInBounds_toArray, List.set_cons_zero, List.set_cons_succ]
  refine anyH_do (i := 2) (d := some 33) (v := (.pointer (some ⟨A, 2888, none⟩))) rfl (by kernel_rfl) (by kernel_rfl) (by kernel_rfl) (fun _ _ _ h => h) (by intro w hw; go_simp) hHeld ?_
  simp only [Act.put, List.setIfInBounds_toArray, List.set_cons_zero, List.set_cons_succ]
  refine anyH_do (i := 3) (d := some 34) (v := (.slice (some ⟨rb 1, 0, none⟩) 64 64)) rfl (by kernel_rfl) (by kernel_rfl) (by kernel_rfl) (fun _ _ _ h => h) (by intro w hw; go_simp) hHeld ?_
  simp only [Act.put, List.setIfInBounds_toArray, List.set_cons_zero, List.set_cons_succ]
  refine anyH_do (i := 4) (d := some 35) (v := (.int .u16 (r : Int))) rfl (by kernel_rfl) (by kernel_rfl) (by kernel_rfl) (fun _ _ _ h => h) (by intro w hw; go_simp) hHeld ?_
  simp only [Act.put, List.setIfInBounds_toArray, List.set_cons_zero, List.set_cons_succ]
  refine anyH_load (i := 5) (d := some 36) (cs := cs) rfl rfl (by kernel_rfl) (by kernel_rfl) (by kernel_rfl) (fun _ _ _ h => h) (fun _ q => q.2) hun rfl hsz hHeld ?_
  simp only [Act.put, List.setIfInBounds_toArray, List.set_cons_zero, List.set_cons_succ]
  refine anyH_do (i := 6) (d := some 37) (v := (.pointer (some ⟨rb 1, r * 22, none⟩))) rfl (by kernel_rfl) (by kernel_rfl) (by kernel_rfl) (fun _ _ _ h => h) (by intro w hw; go_simp) hHeld ?_
  simp only [Act.put, List.setIfInBounds_toArray, List.set_cons_zero, List.set_cons_succ]
  refine anyH_store (i := 7) (cs := cs) rfl rfl rfl (by kernel_rfl) (by kernel_rfl) (by rw [hlen]; simpa using hth) hsz one ?_ ?_
  · exact ⟨(World.cell?_setCells_out _ _ _ _ _ (fun e => absurd e.symm hnra)).trans hHeld.1, World.rangeAt_setCells_apart hHeld.2 _ _ _ (Or.inl (Nat.ne_of_gt hlt))⟩
  · go_wp2_with fail
    go_ret
    have e3 := HE.out.drew.trans (cells_ext _ (rb 1) cs (r * 22)) HE.out.drew.size (fun i _ q => Or.inr ⟨1, by omega, Or.inl q⟩)
    exact ⟨rfl, HEnd.out, e3⟩
end
end Go.Proofs.Qxb6500847aGreatDoor.Os
