/-
  machine.step.
-/
import Derived.Test.Qxb6500848aGreatDoorRfI
namespace Go.Proofs.Qxb6500848aGreatDoor
open Go.RowKit Pl Go.Maps
set_option maxRecDepth 100000

theorem RlPost.still {R : List Nd → List Int → Value → Prop} {X : Nat → Prop} {w : World} {kb eb mb ab nb : Nat} {A : List Nd} {regs : List Int} {ad af an : Addr} {w' : World} (h : MD kb eb mb ab 65536 regs ad X w nb A) (sn : Sn X w ad af an) (hl : regs.length ≤ 8) (hb : Below w.heap.size w w') (hR : R A regs zeroV) : RlPost R kb eb mb ab ad af an X w nb A (.returned zeroV) w' :=
  ⟨X, nb, A, regs, false, false, false, false, 0, rfl, hR, h.below hb, sn.ext (Ext.of_below hb (fun _ => False)) (fun _ _ q => q.elim) (fun _ _ => Iff.rfl), hl, Le.refl _, Ext.of_below hb _, fun _ _ => Iff.rfl, fun _ => Or.inl (Or.inr (Or.inl rfl)), fun _ off n cap q _ => Or.inl (Or.inr (Or.inr (Or.inr (Or.inr ⟨off, n, cap, (hb.cell (p := ⟨kb, 2, none⟩) h.mc.lk).symm.trans q⟩))))⟩

set_option maxHeartbeats 400000 in
theorem rl_askE {X : Nat → Prop} {w : World} {kb eb mb ab nb : Nat} {A : List Nd} {regs : List Int} {ad af an : Addr} (kd oa ob oc o6 : Int) (wa pa : Option Addr) (wn wc pn pc : Nat) (h : MD kb eb mb ab 65536 regs ad X w nb A) (sn : Sn X w ad af an) (hne : regs = []) (u p : Word) :
    Calls Tryz.prog 98 #[.pointer (some ⟨kb, 0, none⟩), .agg #[.int .i64 kd, .int .i64 oa, .int .i64 ob, .int .i64 oc, .slice wa wn wc, .slice pa pn pc, .int .i64 o6]] w (RlPost (AqR kd oa ob A regs u p) kb eb mb ab ad af an X w nb A) := by
  have lk := h.mc.lk
  obtain ⟨rv, m0, m1, m2, hR⟩ := h.mc.cells
  have hrl : ∃ ra rc, rv = .slice ra regs.length rc := by
    rcases hR with ⟨e, e2⟩ | ⟨rb, off, cap, _, e, _⟩
    · exact ⟨none, 0, by rw [e, e2]; rfl⟩
    · exact ⟨_, cap, e⟩
  obtain ⟨ra, rc, rfl⟩ := hrl
  have hB1 : Below w.heap.size w (((w.alloc (.cells #[.pointer (some ⟨kb, 0, none⟩)] 27)).alloc (.cells #[.int .i64 kd, .int .i64 oa, .int .i64 ob, .int .i64 oc, .slice wa wn wc, .slice pa pn pc, .int .i64 o6] 31)).alloc (.cells #[.bool false, .bool false, .bool false, .bool false, .int .i64 0] 95)) := ((alloc_below _).trans ((alloc_below _).mono (alloc_below _).size)).trans ((alloc_below _).mono (Nat.le_trans (alloc_below _).size (alloc_below _).size))
  have hx0 : (((w.alloc (.cells #[.pointer (some ⟨kb, 0, none⟩)] 27)).alloc (.cells #[.int .i64 kd, .int .i64 oa, .int .i64 ob, .int .i64 oc, .slice wa wn wc, .slice pa pn pc, .int .i64 o6] 31)).alloc (.cells #[.bool false, .bool false, .bool false, .bool false, .int .i64 0] 95)).heap[w.heap.size]? = some (.cells #[.pointer (some ⟨kb, 0, none⟩)] 27 (0, 0)) := ((alloc_below _).block _ (by rw [Deep.nblk_alloc, Deep.nblk_alloc]; omega)).trans (((alloc_below _).block _ (by rw [Deep.nblk_alloc]; omega)).trans (heap_new _ _))
  have hx2 : (((w.alloc (.cells #[.pointer (some ⟨kb, 0, none⟩)] 27)).alloc (.cells #[.int .i64 kd, .int .i64 oa, .int .i64 ob, .int .i64 oc, .slice wa wn wc, .slice pa pn pc, .int .i64 o6] 31)).alloc (.cells #[.bool false, .bool false, .bool false, .bool false, .int .i64 0] 95)).heap[w.heap.size + 2]? = some (.cells #[.bool false, .bool false, .bool false, .bool false, .int .i64 0] 95 (0, 0)) := new_at _ _ (by rw [Deep.nblk_alloc, Deep.nblk_alloc])
  have Hst : Hid (∀ W, Below w.heap.size w W → RlPost (AqR kd oa ob A regs u p) kb eb mb ab ad af an X w nb A (.returned zeroV) W) := fun W hW => RlPost.still h sn (by rw [hne]; simp) hW ⟨rfl, by rw [if_pos hne]; exact ⟨rfl, rfl⟩⟩
  subst hne
  clear h sn hR m0 m1
  go_enter Tryz.func98, Tryz.ntmps98
  go_upto_region 1 with fail
  generalize (((w.alloc (.cells #[.pointer (some ⟨kb, 0, none⟩)] 27)).alloc (.cells #[.int .i64 kd, .int .i64 oa, .int .i64 ob, .int .i64 oc, .slice wa wn wc, .slice pa pn pc, .int .i64 o6] 31)).alloc (.cells #[.bool false, .bool false, .bool false, .bool false, .int .i64 0] 95)) = w1 at *
  have k2 := (hB1.cell (p := ⟨kb, 2, none⟩) lk).trans m2
  have c0 := box_cell hx0 0
  have d0 := box_cell hx2 0
  have d1 := box_cell hx2 1
  have d2 := box_cell hx2 2
  have d3 := box_cell hx2 3
  have d4 := box_cell hx2 4
  have z : ∀ i, w1.frozen? ⟨w.heap.size + 2, i, none⟩ = false := fun i => by simp [World.frozen?, hx2]
  have z0 := z 0
  have z1 := z 1
  have z2 := z 2
  have z3 := z 3
  have z4 := z 4
  simp only [List.getElem?_toArray, List.getElem?_cons_zero, List.getElem?_cons_succ] at c0 d0 d1 d2 d3 d4
  have HB1 := hideIt hB1
  have Hx2 := hideIt hx2
  clear hB1 hx0 hx2 z m2
  go_wp2_with fail
  have hH := five_heap Hx2.out (.bool false) (.bool false) (.bool false) (.bool false) (.int .i64 0)
  have hE := five_ext w1 (w.heap.size + 2) (.bool false) (.bool false) (.bool false) (.bool false) (.int .i64 0)
  refine bodyPost_ret (v := .agg #[.bool false, .bool false, .bool false, .bool false, .int .i64 0]) ?_ rfl (by exact Hst.out _ (HB1.out.trans (hE.below' HB1.out.size (fun k hk q => by omega))))
  exact results_cell_row (by exact Tryz.results98) _ _ (w.heap.size + 2) _ _ _ _ (by rfl) (by exact hH) Tryz.underlying95 rfl (by kernel_rfl)

set_option maxHeartbeats 2000000 in
theorem rstep_walk {X : Nat → Prop} {w : World} {kb eb mb ab nb : Nat} {A : List Nd} {regs : List Int} {ad af an : Addr} (kd oa ob oc o6 : Int) (wa pa : Option Addr) (wn wc pn pc : Nat) (h : MD kb eb mb ab 65536 regs ad X w nb A) (sn : Sn X w ad af an) (hl : regs.length ≤ 8) {wd pd : Word} (hw : Ints X w (.slice wa wn wc) wd) (hp : Ints X w (.slice pa pn pc) pd) :
    Calls Tryz.prog 61 #[.pointer (some ⟨kb, 0, none⟩), .agg #[.int .i64 kd, .int .i64 oa, .int .i64 ob, .int .i64 oc, .slice wa wn wc, .slice pa pn pc, .int .i64 o6]] w (RlPost (StR kd oa ob oc A regs (wd.take 5) (pd.take 5)) kb eb mb ab ad af an X w nb A) := by
  have HM := hideIt h
  have HS := hideIt sn
  have HM1 := hideIt (h.boxed sn (.cells #[.int .i64 kd, .int .i64 oa, .int .i64 ob, .int .i64 oc, .slice wa wn wc, .slice pa pn pc, .int .i64 o6] 31) (.bool false) (.bool false) (.bool false) (.bool false) (.int .i64 0))
  have hB1 : Below w.heap.size w ((w.alloc (.cells #[.int .i64 kd, .int .i64 oa, .int .i64 ob, .int .i64 oc, .slice wa wn wc, .slice pa pn pc, .int .i64 o6] 31)).alloc (.cells #[.bool false, .bool false, .bool false, .bool false, .int .i64 0] 95)) := (alloc_below _).trans ((alloc_below _).mono (alloc_below _).size)
  have hop : ((w.alloc (.cells #[.int .i64 kd, .int .i64 oa, .int .i64 ob, .int .i64 oc, .slice wa wn wc, .slice pa pn pc, .int .i64 o6] 31)).alloc (.cells #[.bool false, .bool false, .bool false, .bool false, .int .i64 0] 95)).heap[w.heap.size]? = some (.cells #[.int .i64 kd, .int .i64 oa, .int .i64 ob, .int .i64 oc, .slice wa wn wc, .slice pa pn pc, .int .i64 o6] 31 (0, 0)) := ((alloc_below _).block _ (by rw [Deep.nblk_alloc]; omega)).trans (heap_new _ _)
  have Hmore : Hid (∀ b, b < w.heap.size → (X b ∨ b = w.heap.size + 1) → X b) := fun b hb q => q.elim id (fun e => by omega)
  have Hw := hideIt ((hw.more Hmore.out).below hB1 (Nat.le_refl _))
  have Hp := hideIt ((hp.more Hmore.out).below hB1 (Nat.le_refl _))
  have HZ : Hid (∀ W, Below w.heap.size w W → ¬ (0 ≤ kd ∧ kd ≤ 14) → ¬ (15 ≤ kd ∧ kd ≤ 20) → RlPost (StR kd oa ob oc A regs (wd.take 5) (pd.take 5)) kb eb mb ab ad af an X w nb A (.returned zeroV) W) := fun W hW n1 n2 => RlPost.still h sn hl hW (by unfold StR; rw [if_neg n1, if_neg n2]; exact ⟨rfl, rfl, rfl⟩)
  clear h sn hw hp Hmore
  go_enter Tryz.func61, Tryz.ntmps61
  by_cases h14 : 0 ≤ kd ∧ kd ≤ 14
  · have bb : decide (0 ≤ kd ∧ kd ≤ 14) = true := by simp [h14]
    have HR : Hid (∀ a b c, BdR kd oa ob oc A regs a b c → StR kd oa ob oc A regs (wd.take 5) (pd.take 5) a b c) := fun a b c q => by unfold StR; rw [if_pos h14]; exact q
    go_upto_region 1 with fail
    generalize hWW : ((w.alloc (.cells #[.int .i64 kd, .int .i64 oa, .int .i64 ob, .int .i64 oc, .slice wa wn wc, .slice pa pn pc, .int .i64 o6] 31)).alloc (.cells #[.bool false, .bool false, .bool false, .bool false, .int .i64 0] 95)) = w1 at *
    have HWW : Hid (w1 = ((w.alloc (.cells #[.int .i64 kd, .int .i64 oa, .int .i64 ob, .int .i64 oc, .slice wa wn wc, .slice pa pn pc, .int .i64 o6] 31)).alloc (.cells #[.bool false, .bool false, .bool false, .bool false, .int .i64 0] 95))) := hWW.symm
    have o0 := box_cell hop 0
    have o1 := box_cell hop 1
    have o2 := box_cell hop 2
    have o3 := box_cell hop 3
    have o4 := box_cell hop 4
    have o5 := box_cell hop 5
    have o6' := box_cell hop 6
    simp only [List.getElem?_toArray, List.getElem?_cons_zero, List.getElem?_cons_succ] at o0 o1 o2 o3 o4 o5 o6'
    clear hWW hop hB1
    go_wp2_with fail
    go_at_call 63
    refine (builds_walk kd _).mono ?_
    rintro e w' ⟨rfl, hw'⟩
    obtain rfl := hw'.symm
    rw [bb]
    clear hw'
    go_wp2_with fail
    go_at_call 65
    refine (rl_build HM1.out.1 HM1.out.2 hl kd oa ob oc o6 wa pa wn wc pn pc h14.1 h14.2).mono ?_
    rintro e w2 hp
    obtain ⟨f0, f1, f2, f3, n, rfl, hd, hP⟩ := RlPost.boxed HM.out HS.out _ HWW.out hp
    have HP := hideIt hP
    have d0 := box_cell hd 0
    have d1 := box_cell hd 1
    have d2 := box_cell hd 2
    have d3 := box_cell hd 3
    have d4 := box_cell hd 4
    have z : ∀ i, w2.frozen? ⟨w.heap.size + 1, i, none⟩ = false := fun i => by simp [World.frozen?, hd]
    have z0 := z 0
    have z1 := z 1
    have z2 := z 2
    have z3 := z 3
    have z4 := z 4
    simp only [List.getElem?_toArray, List.getElem?_cons_zero, List.getElem?_cons_succ] at d0 d1 d2 d3 d4
    have Hd := hideIt hd
    clear hp hP hd z o0
    go_wp2_with fail
    have hH := five_heap Hd.out (.bool f0) (.bool f1) (.bool f2) (.bool f3) (.int .i64 n)
    refine bodyPost_ret (v := .agg #[.bool f0, .bool f1, .bool f2, .bool f3, .int .i64 n]) ?_ rfl (HP.out.mono HR.out)
    exact results_cell_row (by exact Tryz.results61) _ _ (w.heap.size + 1) _ _ _ _ (by rfl) (by exact hH) Tryz.underlying95 rfl (by kernel_rfl)
  · have bb : decide (0 ≤ kd ∧ kd ≤ 14) = false := by simp; omega
    by_cases h20 : 15 ≤ kd ∧ kd ≤ 20
    · have ba : decide (15 ≤ kd ∧ kd ≤ 20) = true := by simp [h20]
      have HR : Hid (∀ a b c, AqR kd oa ob A regs (wd.take 5) (pd.take 5) a b c → StR kd oa ob oc A regs (wd.take 5) (pd.take 5) a b c) := fun a b c q => by unfold StR; rw [if_neg h14, if_pos h20]; exact q
      have HC : Hid (Calls Tryz.prog 98 #[.pointer (some ⟨kb, 0, none⟩), .agg #[.int .i64 kd, .int .i64 oa, .int .i64 ob, .int .i64 oc, .slice wa wn wc, .slice pa pn pc, .int .i64 o6]] ((w.alloc (.cells #[.int .i64 kd, .int .i64 oa, .int .i64 ob, .int .i64 oc, .slice wa wn wc, .slice pa pn pc, .int .i64 o6] 31)).alloc (.cells #[.bool false, .bool false, .bool false, .bool false, .int .i64 0] 95)) (RlPost (AqR kd oa ob A regs (wd.take 5) (pd.take 5)) kb eb mb ab ad af an (fun b => X b ∨ b = w.heap.size + 1) ((w.alloc (.cells #[.int .i64 kd, .int .i64 oa, .int .i64 ob, .int .i64 oc, .slice wa wn wc, .slice pa pn pc, .int .i64 o6] 31)).alloc (.cells #[.bool false, .bool false, .bool false, .bool false, .int .i64 0] 95)) nb A)) := by
        by_cases hne : regs = []
        · exact rl_askE kd oa ob oc o6 wa pa wn wc pn pc HM1.out.1 HM1.out.2 hne _ _
        · exact rl_ask h20 HM1.out.1 HM1.out.2 hl hne Hw.out Hp.out
      clear HM1 Hw Hp HZ
      go_upto_region 1 with fail
      generalize hWW : ((w.alloc (.cells #[.int .i64 kd, .int .i64 oa, .int .i64 ob, .int .i64 oc, .slice wa wn wc, .slice pa pn pc, .int .i64 o6] 31)).alloc (.cells #[.bool false, .bool false, .bool false, .bool false, .int .i64 0] 95)) = w1 at *
      have HWW : Hid (w1 = ((w.alloc (.cells #[.int .i64 kd, .int .i64 oa, .int .i64 ob, .int .i64 oc, .slice wa wn wc, .slice pa pn pc, .int .i64 o6] 31)).alloc (.cells #[.bool false, .bool false, .bool false, .bool false, .int .i64 0] 95))) := hWW.symm
      have o0 := box_cell hop 0
      have o1 := box_cell hop 1
      have o2 := box_cell hop 2
      have o3 := box_cell hop 3
      have o4 := box_cell hop 4
      have o5 := box_cell hop 5
      have o6' := box_cell hop 6
      simp only [List.getElem?_toArray, List.getElem?_cons_zero, List.getElem?_cons_succ] at o0 o1 o2 o3 o4 o5 o6'
      clear hWW hop hB1
      go_wp2_with fail
      go_at_call 63
      refine (builds_walk kd _).mono ?_
      rintro e w' ⟨rfl, hw'⟩
      obtain rfl := hw'.symm
      rw [bb]
      clear hw'
      go_wp2_with fail
      go_at_call 66
      refine (asks_walk kd _).mono ?_
      rintro e w' ⟨rfl, hw'⟩
      obtain rfl := hw'.symm
      rw [ba]
      clear hw'
      go_wp2_with fail
      go_at_call 98
      refine (HC.out).mono ?_
      rintro e w2 hp
      obtain ⟨f0, f1, f2, f3, n, rfl, hd, hP⟩ := RlPost.boxed HM.out HS.out _ HWW.out hp
      have HP := hideIt hP
      have d0 := box_cell hd 0
      have d1 := box_cell hd 1
      have d2 := box_cell hd 2
      have d3 := box_cell hd 3
      have d4 := box_cell hd 4
      have z : ∀ i, w2.frozen? ⟨w.heap.size + 1, i, none⟩ = false := fun i => by simp [World.frozen?, hd]
      have z0 := z 0
      have z1 := z 1
      have z2 := z 2
      have z3 := z 3
      have z4 := z 4
      simp only [List.getElem?_toArray, List.getElem?_cons_zero, List.getElem?_cons_succ] at d0 d1 d2 d3 d4
      have Hd := hideIt hd
      clear hp hP hd z o0
      go_wp2_with fail
      have hH := five_heap Hd.out (.bool f0) (.bool f1) (.bool f2) (.bool f3) (.int .i64 n)
      refine bodyPost_ret (v := .agg #[.bool f0, .bool f1, .bool f2, .bool f3, .int .i64 n]) ?_ rfl (HP.out.mono HR.out)
      exact results_cell_row (by exact Tryz.results61) _ _ (w.heap.size + 1) _ _ _ _ (by rfl) (by exact hH) Tryz.underlying95 rfl (by kernel_rfl)
    · have ba : decide (15 ≤ kd ∧ kd ≤ 20) = false := by simp; omega
      have HP := hideIt (HZ.out _ hB1 h14 h20)
      clear HM1 Hw Hp HZ hop hB1
      go_wp2_with fail
      go_at_call 63
      refine (builds_walk kd _).mono ?_
      rintro e w' ⟨rfl, hw'⟩
      obtain rfl := hw'.symm
      rw [bb]
      clear hw'
      go_wp2_with fail
      go_at_call 66
      refine (asks_walk kd _).mono ?_
      rintro e w' ⟨rfl, hw'⟩
      obtain rfl := hw'.symm
      rw [ba]
      clear hw'
      go_wp2_with fail
      refine bodyPost_ret (v := .agg #[.bool false, .bool false, .bool false, .bool false, .int .i64 0]) ?_ rfl (by exact HP.out)
      exact results_cell_row (by exact Tryz.results61) _ _ (w.heap.size + 1) _ _ _ _ (by rfl) (by exact new_at _ _ (Deep.nblk_alloc _ _)) Tryz.underlying95 rfl (by kernel_rfl)
end Go.Proofs.Qxb6500848aGreatDoor
