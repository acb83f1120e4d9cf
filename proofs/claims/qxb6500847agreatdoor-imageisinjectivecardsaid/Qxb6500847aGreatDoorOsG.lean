/-
  The tables turn: give.
-/
import Derived.Test.Qxb6500847aGreatDoorOsF
import Derived.ArgAppend
namespace Go.Proofs.Qxb6500847aGreatDoor.Os
open Go.RowKit FloorA
set_option maxRecDepth 100000
section
variable {A : Nat} {rb sb : Nat → Nat} {s s' : Av} {tl : Nat → List Int} {ws : Nat → Nat → Nat → Int} {w w' : World}
/-- A row is given back. -/
theorem Ms.push (h : Ms w A rb sb s tl ws) {t : Nat} (ht : t < 6) (hn : (tl t).length < nR t) (x : Int) : Ms ((w.setCell ⟨sb t, (tl t).length, none⟩ (.int .u16 x)).setCell ⟨A, 2886 + t * 2 + 1, none⟩ (.slice (some ⟨sb t, 0, none⟩) ((tl t).length + 1) (nR t))) A rb sb (s.setTi t (.slice (some ⟨sb t, 0, none⟩) ((tl t).length + 1) (nR t))) (updT tl t (tl t ++ [x])) ws := by
  have hA1 : Am (w.setCell ⟨sb t, (tl t).length, none⟩ (.int .u16 x)) A s := h.am.ext (self_ext _ _ _ _) (fun e => (h.ar t ht).2 e.symm)
  have n1 : ∀ u, u < 6 → ∀ o p, (⟨A, o, none⟩ : Addr) ≠ ⟨rb u, p, none⟩ := fun u hu o p e => (h.ar u hu).1 (congrArg Addr.block e).symm
  have n2 : ∀ u, u < 6 → ∀ o p, (⟨A, o, none⟩ : Addr) ≠ ⟨sb u, p, none⟩ := fun u hu o p e => (h.ar u hu).2 (congrArg Addr.block e).symm
  have n3 : ∀ u, u < 6 → ∀ p o, (⟨sb t, p, none⟩ : Addr) ≠ ⟨rb u, o, none⟩ := fun u hu p o e => h.rs u t hu ht (congrArg Addr.block e).symm
  refine ⟨hA1.setTi _ ht, h.tr, fun u hu => ?_, fun u hu => ?_, fun u hu r hr j v hv => ((set_other (n1 u hu _ _)).trans (set_other (n3 u hu _ _))).trans (h.row u hu r hr j v hv), fun u hu o => frz_set _ _ _ _ (frz_set _ _ _ _ (h.rfz u hu o)), fun u hu j hj => ?_, fun u hu o => frz_set _ _ _ _ (frz_set _ _ _ _ (h.sfz u hu o)), h.ar, h.rs, h.rr, h.ss⟩
  · by_cases e : u = t
    · subst e; simp [Av.setTi, updT]
    · simp [Av.setTi, updT, e]; exact h.ti u hu
  · by_cases e : u = t
    · subst e; simp [updT]; omega
    · simp [updT, e]; exact h.tn u hu
  · obtain ⟨y, hy, k⟩ := h.idc u hu j hj
    by_cases e : u = t ∧ j = (tl t).length
    · obtain ⟨rfl, rfl⟩ := e
      refine ⟨x, (set_other (n2 u hu _ _)).trans (set_same hy), fun q => ?_⟩
      simp [updT]
    · have ne : (⟨sb t, (tl t).length, none⟩ : Addr) ≠ ⟨sb u, j, none⟩ := fun q => by
        injection q with q1 q2
        exact e ⟨(h.ss t u ht hu q1).symm, q2.symm⟩
      refine ⟨y, ((set_other (n2 u hu _ _)).trans (set_other ne)).trans hy, fun q => ?_⟩
      by_cases e2 : u = t
      · subst e2
        have q' : j < (tl u).length + 1 := by simpa [updT] using q
        have jl : j < (tl u).length := by
          have : j ≠ (tl u).length := fun r => e ⟨rfl, r⟩
          omega
        simp only [updT, if_true]
        rw [List.getElem_append_left jl]
        exact k jl
      · simp only [updT, e2, if_false] at q ⊢
        exact k q
def GvPost (t : Nat) (x : Int) (A : Nat) (rb sb : Nat → Nat) (s : Av) (tl : Nat → List Int) (ws : Nat → Nat → Nat → Int) (w : World) (e : Ending) (w' : World) : Prop :=
  e = .returned (.tuple #[]) ∧ Ms w' A rb sb (s.setTi t (.slice (some ⟨sb t, 0, none⟩) ((tl t).length + 1) (nR t))) (updT tl t (tl t ++ [x])) ws ∧ Ext w.heap.size (Tz A rb sb) w w'
theorem gv_end (h : Ms w A rb sb s tl ws) {t : Nat} (ht : t < 6) (hn : (tl t).length < nR t) (x : Int) (o : Obj) : Ms (((w.setCell ⟨sb t, (tl t).length, none⟩ (.int .u16 x)).setCell ⟨A, 2886 + t * 2 + 1, none⟩ (.slice (some ⟨sb t, 0, none⟩) ((tl t).length + 1) (nR t))).alloc o) A rb sb (s.setTi t (.slice (some ⟨sb t, 0, none⟩) ((tl t).length + 1) (nR t))) (updT tl t (tl t ++ [x])) ws ∧ Ext w.heap.size (Tz A rb sb) w (((w.setCell ⟨sb t, (tl t).length, none⟩ (.int .u16 x)).setCell ⟨A, 2886 + t * 2 + 1, none⟩ (.slice (some ⟨sb t, 0, none⟩) ((tl t).length + 1) (nR t))).alloc o) := by
  refine ⟨(h.push ht hn x).below (alloc_below o), ?_⟩
  have e1 : Ext w.heap.size (Tz A rb sb) w ((w.setCell ⟨sb t, (tl t).length, none⟩ (.int .u16 x)).setCell ⟨A, 2886 + t * 2 + 1, none⟩ (.slice (some ⟨sb t, 0, none⟩) ((tl t).length + 1) (nR t))) := ((Ext.refl _ _ _).setCell (Or.inr (Or.inr ⟨t, ht, Or.inr rfl⟩)) _).setCell (Or.inr (Or.inl rfl)) _
  exact e1.andThen (alloc_below o) e1.size
theorem gv_info : ∃ i0, Tryz.prog.info? 29 = some i0 ∧ i0.zero = some (.int .u16 0) ∧ i0.size = 1 ∧ i0.bytes = 2 := by
  have h := Tryz.info29
  obtain ⟨i, hi, e⟩ := Option.map_eq_some_iff.1 h
  simp only [Prod.mk.injEq] at e
  exact ⟨i, hi, e.1, e.2.1, e.2.2⟩

set_option maxHeartbeats 4000000 in
theorem give_walk0 (h : Ms w A rb sb s tl ws) (hn : (tl 0).length < nR 0) (x : Int) :
    Calls Tryz.prog 325 #[.pointer (some ⟨A, 2886, none⟩), .int .u16 x] w (GvPost 0 x A rb sb s tl ws w) := by
  have hc := h.tic (t := 0) (by omega)
  have HE := hideIt (gv_end h (t := 0) (by omega) hn x)
  have hz := h.am.free 2887
  have la := h.am.lt
  have ne := (h.ar 0 (by omega)).2
  obtain ⟨y, hy, _⟩ := h.idc 0 (by omega) (tl 0).length hn
  have fy := h.sfz 0 (by omega) (tl 0).length
  have lsb : sb 0 < w.heap.size := cell_lt hy
  simp only [nR, Nat.reduceMul, Nat.reduceAdd] at hc hn
  clear h
  go_enter Tryz.func325, Tryz.ntmps325
  go_wp2_with fail
  exact bodyPost_ret (v := .tuple #[]) (by simp [results, Tryz.results325]) rfl ⟨rfl, HE.out _⟩

set_option maxHeartbeats 4000000 in
theorem give_walk1 (h : Ms w A rb sb s tl ws) (hn : (tl 1).length < nR 1) (x : Int) :
    Calls Tryz.prog 326 #[.pointer (some ⟨A, 2888, none⟩), .int .u16 x] w (GvPost 1 x A rb sb s tl ws w) := by
  have hc := h.tic (t := 1) (by omega)
  have HE := hideIt (gv_end h (t := 1) (by omega) hn x)
  have hz := h.am.free 2889
  have la := h.am.lt
  have ne := (h.ar 1 (by omega)).2
  obtain ⟨y, hy, _⟩ := h.idc 1 (by omega) (tl 1).length hn
  have fy := h.sfz 1 (by omega) (tl 1).length
  have lsb : sb 1 < w.heap.size := cell_lt hy
  simp only [nR, Nat.reduceMul, Nat.reduceAdd] at hc hn
  clear h
  go_enter Tryz.func326, Tryz.ntmps326
  go_wp2_with fail
  exact bodyPost_ret (v := .tuple #[]) (by simp [results, Tryz.results326]) rfl ⟨rfl, HE.out _⟩

set_option maxHeartbeats 4000000 in
theorem give_walk2 (h : Ms w A rb sb s tl ws) (hn : (tl 2).length < nR 2) (x : Int) :
    Calls Tryz.prog 327 #[.pointer (some ⟨A, 2890, none⟩), .int .u16 x] w (GvPost 2 x A rb sb s tl ws w) := by
  have hc := h.tic (t := 2) (by omega)
  have HE := hideIt (gv_end h (t := 2) (by omega) hn x)
  have hz := h.am.free 2891
  have la := h.am.lt
  have ne := (h.ar 2 (by omega)).2
  obtain ⟨y, hy, _⟩ := h.idc 2 (by omega) (tl 2).length hn
  have fy := h.sfz 2 (by omega) (tl 2).length
  have lsb : sb 2 < w.heap.size := cell_lt hy
  simp only [nR, Nat.reduceMul, Nat.reduceAdd] at hc hn
  clear h
  go_enter Tryz.func327, Tryz.ntmps327
  go_wp2_with fail
  exact bodyPost_ret (v := .tuple #[]) (by simp [results, Tryz.results327]) rfl ⟨rfl, HE.out _⟩

set_option maxHeartbeats 4000000 in
theorem give_walk3 (h : Ms w A rb sb s tl ws) (hn : (tl 3).length < nR 3) (x : Int) :
    Calls Tryz.prog 328 #[.pointer (some ⟨A, 2892, none⟩), .int .u16 x] w (GvPost 3 x A rb sb s tl ws w) := by
  have hc := h.tic (t := 3) (by omega)
  have HE := hideIt (gv_end h (t := 3) (by omega) hn x)
  have hz := h.am.free 2893
  have la := h.am.lt
  have ne := (h.ar 3 (by omega)).2
  obtain ⟨y, hy, _⟩ := h.idc 3 (by omega) (tl 3).length hn
  have fy := h.sfz 3 (by omega) (tl 3).length
  have lsb : sb 3 < w.heap.size := cell_lt hy
  simp only [nR, Nat.reduceMul, Nat.reduceAdd] at hc hn
  clear h
  go_enter Tryz.func328, Tryz.ntmps328
  go_wp2_with fail
  exact bodyPost_ret (v := .tuple #[]) (by simp [results, Tryz.results328]) rfl ⟨rfl, HE.out _⟩

set_option maxHeartbeats 4000000 in
theorem give_walk4 (h : Ms w A rb sb s tl ws) (hn : (tl 4).length < nR 4) (x : Int) :
    Calls Tryz.prog 329 #[.pointer (some ⟨A, 2894, none⟩), .int .u16 x] w (GvPost 4 x A rb sb s tl ws w) := by
  have hc := h.tic (t := 4) (by omega)
  have HE := hideIt (gv_end h (t := 4) (by omega) hn x)
  have hz := h.am.free 2895
  have la := h.am.lt
  have ne := (h.ar 4 (by omega)).2
  obtain ⟨y, hy, _⟩ := h.idc 4 (by omega) (tl 4).length hn
  have fy := h.sfz 4 (by omega) (tl 4).length
  have lsb : sb 4 < w.heap.size := cell_lt hy
  simp only [nR, Nat.reduceMul, Nat.reduceAdd] at hc hn
  clear h
  go_enter Tryz.func329, Tryz.ntmps329
  go_wp2_with fail
  exact bodyPost_ret (v := .tuple #[]) (by simp [results, Tryz.results329]) rfl ⟨rfl, HE.out _⟩

set_option maxHeartbeats 4000000 in
theorem give_walk5 (h : Ms w A rb sb s tl ws) (hn : (tl 5).length < nR 5) (x : Int) :
    Calls Tryz.prog 330 #[.pointer (some ⟨A, 2896, none⟩), .int .u16 x] w (GvPost 5 x A rb sb s tl ws w) := by
  have hc := h.tic (t := 5) (by omega)
  have HE := hideIt (gv_end h (t := 5) (by omega) hn x)
  have hz := h.am.free 2897
  have la := h.am.lt
  have ne := (h.ar 5 (by omega)).2
  obtain ⟨y, hy, _⟩ := h.idc 5 (by omega) (tl 5).length hn
  have fy := h.sfz 5 (by omega) (tl 5).length
  have lsb : sb 5 < w.heap.size := cell_lt hy
  simp only [nR, Nat.reduceMul, Nat.reduceAdd] at hc hn
  clear h
  go_enter Tryz.func330, Tryz.ntmps330
  go_wp2_with fail
  exact bodyPost_ret (v := .tuple #[]) (by simp [results, Tryz.results330]) rfl ⟨rfl, HE.out _⟩
end
end Go.Proofs.Qxb6500847aGreatDoor.Os
