/-
  Stats.
-/
import Derived.Test.Qxb6500847aGreatDoorOsQf
import Derived.Test.Qxb6500847aGreatDoorOsY
import Derived.Test.Qxb6500847aGreatDoorOsRe
import Derived.Test.Qxb6500847aGreatDoorOsSt0
namespace Go.Proofs.Qxb6500847aGreatDoor.Os
open Go.RowKit FloorA
set_option maxRecDepth 100000
def lv8 (l : Nat → Int) : List Value := [.int .i64 (l 0), .int .i64 (l 1), .int .i64 (l 2), .int .i64 (l 3), .int .i64 (l 4), .int .i64 (l 5), .int .i64 (l 6), .int .i64 (l 7)]
theorem size53 : (Tryz.prog.info? 53).map (·.size) = some 17 := by kernel_rfl
theorem size51 : (Tryz.prog.info? 51).map (·.size) = some 8 := by kernel_rfl
section
variable {P : Program} {ops : Array Oper} {Q : Exit → Act → World → Prop} {a : Act} {w w1 : World} {K0 : Act → World → Prop}
theorem opH_call {i : Nat} {d : Option Nat} {f : FuncId} {args : Array Value} {E : Sem Next} (hw : (ops[i]?.map fun o => (o.dst, Region.wanted o (yielded ops a.tmps), execOp a.eval o)) = some (d, true, E)) (hE : E.run P w = .ok (.enter f args) w)
    (hc : Calls P f args w (fun e w' => ∃ v, e = .returned v ∧ K0 (a.put d v) w')) : wpOp P ops Q i K0 a w := by
  obtain ⟨o, ho, e⟩ := Option.map_eq_some_iff.1 hw
  simp only [Prod.mk.injEq] at e
  obtain ⟨rfl, e2, rfl⟩ := e
  refine wpOp_step ho (fun K hK => ?_)
  rw [if_pos e2]
  unfold Oper.wp
  rw [hE, Oper.upon_enter]
  refine hc.mono ?_
  rintro e w' ⟨v, rfl, h⟩
  exact hK _ _ h
theorem opH_val {i : Nat} {d : Option Nat} {v : Value} {E : Sem Next} (hw : (ops[i]?.map fun o => (o.dst, Region.wanted o (yielded ops a.tmps), execOp a.eval o)) = some (d, true, E)) (hE : E.run P w = .ok (.value v) w1)
    (h : K0 (a.put d v) w1) : wpOp P ops Q i K0 a w := by
  obtain ⟨o, ho, e⟩ := Option.map_eq_some_iff.1 hw
  simp only [Prod.mk.injEq] at e
  obtain ⟨rfl, e2, rfl⟩ := e
  refine wpOp_step ho (fun K hK => ?_)
  rw [if_pos e2]
  unfold Oper.wp
  rw [hE, Oper.upon_value]
  exact hK _ _ h
end
section
variable {A : Nat} {rb sb : Nat → Nat} {s : Av} {tl : Nat → List Int} {ws : Nat → Nat → Nat → Int} {w : World} {L : Nat → List Nat} {n : Nat}
theorem Am.stats (h : Am w A s) : w.cell? ⟨A, 2885, none⟩ = some (.int .i64 s.nrt) ∧ w.cell? ⟨A, 2899, none⟩ = some (.int .i64 (s.lv 1)) ∧ w.cell? ⟨A, 2906, none⟩ = some (.int .i64 s.c0) ∧ w.cell? ⟨A, 2907, none⟩ = some (.int .i64 s.c1) ∧ w.cell? ⟨A, 2908, none⟩ = some (.int .u64 s.c2) ∧ w.cell? ⟨A, 2909, none⟩ = some (.int .u64 s.c3) ∧ w.rangeAt A 2898 (lv8 s.lv) := by
  refine ⟨h.nrc, h.cell 2899 (by omega), h.cell 2906 (by omega), h.cell 2907 (by omega), h.cell 2908 (by omega), h.cell 2909 (by omega), ?_⟩
  intro j v hj
  have hl : j < 8 := by
    have := (List.getElem?_eq_some_iff.1 hj).1
    exact this
  have := h.cell (2898 + j) (by omega)
  rw [this]
  have : j = 0 ∨ j = 1 ∨ j = 2 ∨ j = 3 ∨ j = 4 ∨ j = 5 ∨ j = 6 ∨ j = 7 := by omega
  rcases this with rfl | rfl | rfl | rfl | rfl | rfl | rfl | rfl <;> exact hj
def SsPost (nr n1 n2 c0 c1 : Int) (l : Nat → Int) (c2 c3 : Int) (w : World) (e : Ending) (w' : World) : Prop := e = .returned (.agg (st17 (wrap64 (wrap64 (256 - n1) - c0)) (l 1) nr n1 n2 c0 c1 l c2 c3).toArray) ∧ Below w.heap.size w w'
set_option maxHeartbeats 8000000 in
theorem Stats_walk (h : Ms w A rb sb s tl ws) (hI : IV s tl L n) :
    Calls Tryz.prog 16 #[.pointer (some ⟨A, 0, none⟩)] w (SsPost s.nrt (cnI s 0 256 : Int) (cnI s 256 320 : Int) s.c0 s.c1 s.lv s.c2 s.c3 w) := by
  have bB := alloc_below (w := w) (.cells #[.int .i64 0, .int .i64 0, .int .i64 0, .int .i64 0, .int .i64 0, .int .i64 0, .int .i64 0, .int .i64 0, .int .i64 0, .int .i64 0, .int .i64 0, .int .i64 0, .int .i64 0, .int .i64 0, .int .i64 0, .int .u64 0, .int .u64 0] 53)
  have hz : (w.alloc (.cells #[.int .i64 0, .int .i64 0, .int .i64 0, .int .i64 0, .int .i64 0, .int .i64 0, .int .i64 0, .int .i64 0, .int .i64 0, .int .i64 0, .int .i64 0, .int .i64 0, .int .i64 0, .int .i64 0, .int .i64 0, .int .u64 0, .int .u64 0] 53)).heap[w.heap.size]? = some (.cells #[.int .i64 0, .int .i64 0, .int .i64 0, .int .i64 0, .int .i64 0, .int .i64 0, .int .i64 0, .int .i64 0, .int .i64 0, .int .i64 0, .int .i64 0, .int .i64 0, .int .i64 0, .int .i64 0, .int .i64 0, .int .u64 0, .int .u64 0] 53 (0, 0)) := heap_new _ _
  have HKP : Hid (∀ w', Below w.heap.size w w' → (w'.cell? ⟨A, 2885, none⟩ = some (.int .i64 s.nrt) ∧ w'.cell? ⟨A, 2899, none⟩ = some (.int .i64 (s.lv 1)) ∧ w'.cell? ⟨A, 2906, none⟩ = some (.int .i64 s.c0) ∧ w'.cell? ⟨A, 2907, none⟩ = some (.int .i64 s.c1) ∧ w'.cell? ⟨A, 2908, none⟩ = some (.int .u64 s.c2) ∧ w'.cell? ⟨A, 2909, none⟩ = some (.int .u64 s.c3) ∧ w'.rangeAt A 2898 (lv8 s.lv))) := fun w' k => (h.am.below k).stats
  have HC1 : Hid (∀ w', Below w.heap.size w w' → Calls Tryz.prog 48 #[.pointer (some ⟨A, 2560, none⟩), .int .u16 0, .int .u16 256] w' fun e w'' => e = .returned (.int .i64 (cnI s 0 256 : Int)) ∧ w'' = w') := fun w' k => count_walk (h.am.below k) hI.ge.wd (a := 0) (b := 4) (by omega) (by omega)
  have HC2 : Hid (∀ w', Below w.heap.size w w' → Calls Tryz.prog 48 #[.pointer (some ⟨A, 2560, none⟩), .int .u16 256, .int .u16 320] w' fun e w'' => e = .returned (.int .i64 (cnI s 256 320 : Int)) ∧ w'' = w') := fun w' k => count_walk (h.am.below k) hI.ge.wd (a := 4) (b := 5) (by omega) (by omega)
  have HB := hideIt bB
  have HZ := hideIt hz
  have hA := h.am.lt
  clear h hI bB hz
  generalize s.nrt = nr at *
  generalize s.lv = l at *
  generalize s.c0 = c0 at *
  generalize s.c1 = c1 at *
  generalize s.c2 = c2 at *
  generalize s.c3 = c3 at *
  generalize (cnI s 0 256 : Int) = n1 at *
  generalize (cnI s 256 320 : Int) = n2 at *
  go_enter Tryz.func16, Tryz.ntmps16
  go_wp2_with fail
  generalize w.alloc (.cells #[.int .i64 0, .int .i64 0, .int .i64 0, .int .i64 0, .int .i64 0, .int .i64 0, .int .i64 0, .int .i64 0, .int .i64 0, .int .i64 0, .int .i64 0, .int .i64 0, .int .i64 0, .int .i64 0, .int .i64 0, .int .u64 0, .int .u64 0] 53) = w0 at *
  have hS0 := HKP.out w0.drew (Below.thr HB.out (below_d _))
  refine wp_region_held_drew (S := (fun w' => w'.cell? ⟨A, 2885, none⟩ = some (.int .i64 nr) ∧ w'.cell? ⟨A, 2899, none⟩ = some (.int .i64 (l 1)) ∧ w'.cell? ⟨A, 2906, none⟩ = some (.int .i64 c0) ∧ w'.cell? ⟨A, 2907, none⟩ = some (.int .i64 c1) ∧ w'.cell? ⟨A, 2908, none⟩ = some (.int .u64 c2) ∧ w'.cell? ⟨A, 2909, none⟩ = some (.int .u64 c3) ∧ w'.rangeAt A 2898 (lv8 l))) (by kernel_rfl) hS0 (fun hHeld => ?_)
  clear hS0
  refine anyH_do (i := 0) (d := some 4) (v := (.pointer (some ⟨A, 0, none⟩))) rfl (by kernel_rfl) (by kernel_rfl) (by kernel_rfl) (fun _ _ _ h => h) (by intro w hw; go_simp) hHeld ?_
  simp only [Act.put, List.setIfInBounds_toArray, List.set_cons_zero, List.set_cons_succ]
  refine anyH_do (i := 1) (d := some 5) (v := (.pointer (some ⟨A, 0, none⟩))) rfl (by kernel_rfl) (by kernel_rfl) (by kernel_rfl) (fun _ _ _ h => h) (by intro w hw; go_simp) hHeld ?_
  simp only [Act.put, List.setIfInBounds_toArray, List.set_cons_zero, List.set_cons_succ]
  refine anyH_do (i := 2) (d := some 6) (v := (.pointer (some ⟨A, 2898, none⟩))) rfl (by kernel_rfl) (by kernel_rfl) (by kernel_rfl) (fun _ _ _ h => h) (by intro w hw; go_simp) hHeld ?_
  simp only [Act.put, List.setIfInBounds_toArray, List.set_cons_zero, List.set_cons_succ]
  refine anyH_do (i := 3) (d := some 7) (v := (.pointer (some ⟨A, 2899, none⟩))) rfl (by kernel_rfl) (by kernel_rfl) (by kernel_rfl) (fun _ _ _ h => h) (by intro w hw; go_simp) hHeld ?_
  simp only [Act.put, List.setIfInBounds_toArray, List.set_cons_zero, List.set_cons_succ]
  refine anyH_do (i := 4) (d := some 8) (v := (.int .i64 (l 1))) rfl (by kernel_rfl) (by kernel_rfl) (by kernel_rfl) (fun _ _ _ h => h) (by intro w hw; go_simp) hHeld ?_
  simp only [Act.put, List.setIfInBounds_toArray, List.set_cons_zero, List.set_cons_succ]
  refine anyH_do (i := 5) (d := some 9) (v := (.pointer (some ⟨A, 0, none⟩))) rfl (by kernel_rfl) (by kernel_rfl) (by kernel_rfl) (fun _ _ _ h => h) (by intro w hw; go_simp) hHeld ?_
  simp only [Act.put, List.setIfInBounds_toArray, List.set_cons_zero, List.set_cons_succ]
  refine anyH_do (i := 6) (d := some 10) (v := (.pointer (some ⟨A, 0, none⟩))) rfl (by kernel_rfl) (by kernel_rfl) (by kernel_rfl) (fun _ _ _ h => h) (by intro w hw; go_simp) hHeld ?_
  simp only [Act.put, List.setIfInBounds_toArray, List.set_cons_zero, List.set_cons_succ]
  refine anyH_do (i := 7) (d := some 11) (v := (.pointer (some ⟨A, 2885, none⟩))) rfl (by kernel_rfl) (by kernel_rfl) (by kernel_rfl) (fun _ _ _ h => h) (by intro w hw; go_simp) hHeld ?_
  simp only [Act.put, List.setIfInBounds_toArray, List.set_cons_zero, List.set_cons_succ]
  refine anyH_do (i := 8) (d := some 12) (v := (.int .i64 nr)) rfl (by kernel_rfl) (by kernel_rfl) (by kernel_rfl) (fun _ _ _ h => h) (by intro w hw; go_simp) hHeld ?_
  simp only [Act.put, List.setIfInBounds_toArray, List.set_cons_zero, List.set_cons_succ]
  refine anyH_do (i := 9) (d := some 13) (v := (.pointer (some ⟨A, 0, none⟩))) rfl (by kernel_rfl) (by kernel_rfl) (by kernel_rfl) (fun _ _ _ h => h) (by intro w hw; go_simp) hHeld ?_
  simp only [Act.put, List.setIfInBounds_toArray, List.set_cons_zero, List.set_cons_succ]
  refine anyH_do (i := 10) (d := some 14) (v := (.pointer (some ⟨A, 0, none⟩))) rfl (by kernel_rfl) (by kernel_rfl) (by kernel_rfl) (fun _ _ _ h => h) (by intro w hw; go_simp) hHeld ?_
  simp only [Act.put, List.setIfInBounds_toArray, List.set_cons_zero, List.set_cons_succ]
  refine anyH_do (i := 11) (d := some 15) (v := (.pointer (some ⟨A, 2560, none⟩))) rfl (by kernel_rfl) (by kernel_rfl) (by kernel_rfl) (fun _ _ _ h => h) (by intro w hw; go_simp) hHeld ?_
  simp only [Act.put, List.setIfInBounds_toArray, List.set_cons_zero, List.set_cons_succ]
  refine anyH_do (i := 13) (d := some 17) (v := (.pointer (some ⟨A, 0, none⟩))) rfl (by kernel_rfl) (by kernel_rfl) (by kernel_rfl) (fun _ _ _ h => h) (by intro w hw; go_simp) hHeld ?_
  simp only [Act.put, List.setIfInBounds_toArray, List.set_cons_zero, List.set_cons_succ]
  refine anyH_do (i := 14) (d := some 18) (v := (.pointer (some ⟨A, 0, none⟩))) rfl (by kernel_rfl) (by kernel_rfl) (by kernel_rfl) (fun _ _ _ h => h) (by intro w hw; go_simp) hHeld ?_
  simp only [Act.put, List.setIfInBounds_toArray, List.set_cons_zero, List.set_cons_succ]
  refine anyH_do (i := 15) (d := some 19) (v := (.pointer (some ⟨A, 2560, none⟩))) rfl (by kernel_rfl) (by kernel_rfl) (by kernel_rfl) (fun _ _ _ h => h) (by intro w hw; go_simp) hHeld ?_
  simp only [Act.put, List.setIfInBounds_toArray, List.set_cons_zero, List.set_cons_succ]
  refine anyH_do (i := 17) (d := some 21) (v := (.pointer (some ⟨A, 0, none⟩))) rfl (by kernel_rfl) (by kernel_rfl) (by kernel_rfl) (fun _ _ _ h => h) (by intro w hw; go_simp) hHeld ?_
  simp only [Act.put, List.setIfInBounds_toArray, List.set_cons_zero, List.set_cons_succ]
  refine anyH_do (i := 18) (d := some 22) (v := (.pointer (some ⟨A, 0, none⟩))) rfl (by kernel_rfl) (by kernel_rfl) (by kernel_rfl) (fun _ _ _ h => h) (by intro w hw; go_simp) hHeld ?_
  simp only [Act.put, List.setIfInBounds_toArray, List.set_cons_zero, List.set_cons_succ]
  refine anyH_do (i := 19) (d := some 23) (v := (.pointer (some ⟨A, 2906, none⟩))) rfl (by kernel_rfl) (by kernel_rfl) (by kernel_rfl) (fun _ _ _ h => h) (by intro w hw; go_simp) hHeld ?_
  simp only [Act.put, List.setIfInBounds_toArray, List.set_cons_zero, List.set_cons_succ]
  refine anyH_do (i := 20) (d := some 24) (v := (.int .i64 c0)) rfl (by kernel_rfl) (by kernel_rfl) (by kernel_rfl) (fun _ _ _ h => h) (by intro w hw; go_simp) hHeld ?_
  simp only [Act.put, List.setIfInBounds_toArray, List.set_cons_zero, List.set_cons_succ]
  refine anyH_do (i := 21) (d := some 25) (v := (.pointer (some ⟨A, 0, none⟩))) rfl (by kernel_rfl) (by kernel_rfl) (by kernel_rfl) (fun _ _ _ h => h) (by intro w hw; go_simp) hHeld ?_
  simp only [Act.put, List.setIfInBounds_toArray, List.set_cons_zero, List.set_cons_succ]
  refine anyH_do (i := 22) (d := some 26) (v := (.pointer (some ⟨A, 0, none⟩))) rfl (by kernel_rfl) (by kernel_rfl) (by kernel_rfl) (fun _ _ _ h => h) (by intro w hw; go_simp) hHeld ?_
  simp only [Act.put, List.setIfInBounds_toArray, List.set_cons_zero, List.set_cons_succ]
  refine anyH_do (i := 23) (d := some 27) (v := (.pointer (some ⟨A, 2907, none⟩))) rfl (by kernel_rfl) (by kernel_rfl) (by kernel_rfl) (fun _ _ _ h => h) (by intro w hw; go_simp) hHeld ?_
  simp only [Act.put, List.setIfInBounds_toArray, List.set_cons_zero, List.set_cons_succ]
  refine anyH_do (i := 24) (d := some 28) (v := (.int .i64 c1)) rfl (by kernel_rfl) (by kernel_rfl) (by kernel_rfl) (fun _ _ _ h => h) (by intro w hw; go_simp) hHeld ?_
  simp only [Act.put, List.setIfInBounds_toArray, List.set_cons_zero, List.set_cons_succ]
  refine anyH_do (i := 25) (d := some 29) (v := (.pointer (some ⟨A, 0, none⟩))) rfl (by kernel_rfl) (by kernel_rfl) (by kernel_rfl) (fun _ _ _ h => h) (by intro w hw; go_simp) hHeld ?_
  simp only [Act.put, List.setIfInBounds_toArray, List.set_cons_zero, List.set_cons_succ]
  refine anyH_do (i := 26) (d := some 30) (v := (.pointer (some ⟨A, 0, none⟩))) rfl (by kernel_rfl) (by kernel_rfl) (by kernel_rfl) (fun _ _ _ h => h) (by intro w hw; go_simp) hHeld ?_
  simp only [Act.put, List.setIfInBounds_toArray, List.set_cons_zero, List.set_cons_succ]
  refine anyH_do (i := 27) (d := some 31) (v := (.pointer (some ⟨A, 2898, none⟩))) rfl (by kernel_rfl) (by kernel_rfl) (by kernel_rfl) (fun _ _ _ h => h) (by intro w hw; go_simp) hHeld ?_
  simp only [Act.put, List.setIfInBounds_toArray, List.set_cons_zero, List.set_cons_succ]
  refine anyH_load (i := 28) (d := some 32) (cs := [.int .i64 (l 0), .int .i64 (l 1), .int .i64 (l 2), .int .i64 (l 3), .int .i64 (l 4), .int .i64 (l 5), .int .i64 (l 6), .int .i64 (l 7)]) rfl rfl (by kernel_rfl) (by kernel_rfl) (by kernel_rfl) (fun _ _ _ h => h) (fun _ hw => hw.2.2.2.2.2.2) Tryz.underlying51 rfl size51 hHeld ?_
  simp only [Act.put, List.setIfInBounds_toArray, List.set_cons_zero, List.set_cons_succ]
  refine anyH_do (i := 29) (d := some 33) (v := (.pointer (some ⟨A, 0, none⟩))) rfl (by kernel_rfl) (by kernel_rfl) (by kernel_rfl) (fun _ _ _ h => h) (by intro w hw; go_simp) hHeld ?_
  simp only [Act.put, List.setIfInBounds_toArray, List.set_cons_zero, List.set_cons_succ]
  refine anyH_do (i := 30) (d := some 34) (v := (.pointer (some ⟨A, 0, none⟩))) rfl (by kernel_rfl) (by kernel_rfl) (by kernel_rfl) (fun _ _ _ h => h) (by intro w hw; go_simp) hHeld ?_
  simp only [Act.put, List.setIfInBounds_toArray, List.set_cons_zero, List.set_cons_succ]
  refine anyH_do (i := 31) (d := some 35) (v := (.pointer (some ⟨A, 2908, none⟩))) rfl (by kernel_rfl) (by kernel_rfl) (by kernel_rfl) (fun _ _ _ h => h) (by intro w hw; go_simp) hHeld ?_
  simp only [Act.put, List.setIfInBounds_toArray, List.set_cons_zero, List.set_cons_succ]
  refine anyH_do (i := 32) (d := some 36) (v := (.int .u64 c2)) rfl (by kernel_rfl) (by kernel_rfl) (by kernel_rfl) (fun _ _ _ h => h) (by intro w hw; go_simp) hHeld ?_
  simp only [Act.put, List.setIfInBounds_toArray, List.set_cons_zero, List.set_cons_succ]
  refine anyH_do (i := 33) (d := some 37) (v := (.pointer (some ⟨A, 0, none⟩))) rfl (by kernel_rfl) (by kernel_rfl) (by kernel_rfl) (fun _ _ _ h => h) (by intro w hw; go_simp) hHeld ?_
  simp only [Act.put, List.setIfInBounds_toArray, List.set_cons_zero, List.set_cons_succ]
  refine anyH_do (i := 34) (d := some 38) (v := (.pointer (some ⟨A, 0, none⟩))) rfl (by kernel_rfl) (by kernel_rfl) (by kernel_rfl) (fun _ _ _ h => h) (by intro w hw; go_simp) hHeld ?_
  simp only [Act.put, List.setIfInBounds_toArray, List.set_cons_zero, List.set_cons_succ]
  refine anyH_do (i := 35) (d := some 39) (v := (.pointer (some ⟨A, 2909, none⟩))) rfl (by kernel_rfl) (by kernel_rfl) (by kernel_rfl) (fun _ _ _ h => h) (by intro w hw; go_simp) hHeld ?_
  simp only [Act.put, List.setIfInBounds_toArray, List.set_cons_zero, List.set_cons_succ]
  refine anyH_do (i := 36) (d := some 40) (v := (.int .u64 c3)) rfl (by kernel_rfl) (by kernel_rfl) (by kernel_rfl) (fun _ _ _ h => h) (by intro w hw; go_simp) hHeld ?_
  simp only [Act.put, List.setIfInBounds_toArray, List.set_cons_zero, List.set_cons_succ]
  have HBa : Hid (Below w.heap.size w (w0.drew.alloc (.cells #[.int .i64 0, .int .i64 0, .int .i64 0, .int .i64 0, .int .i64 0, .int .i64 0, .int .i64 0, .int .i64 0, .int .i64 0, .int .i64 0, .int .i64 0, .int .i64 0, .int .i64 0, .int .i64 0, .int .i64 0, .int .u64 0, .int .u64 0] 53))) := Below.thr (Below.thr HB.out (below_d _)) (alloc_below _)
  have hnw : (w0.drew.alloc (.cells #[.int .i64 0, .int .i64 0, .int .i64 0, .int .i64 0, .int .i64 0, .int .i64 0, .int .i64 0, .int .i64 0, .int .i64 0, .int .i64 0, .int .i64 0, .int .i64 0, .int .i64 0, .int .i64 0, .int .i64 0, .int .u64 0, .int .u64 0] 53)).heap[w0.heap.size]? = some (.cells #[.int .i64 0, .int .i64 0, .int .i64 0, .int .i64 0, .int .i64 0, .int .i64 0, .int .i64 0, .int .i64 0, .int .i64 0, .int .i64 0, .int .i64 0, .int .i64 0, .int .i64 0, .int .i64 0, .int .i64 0, .int .u64 0, .int .u64 0] 53 (0, 0)) := new_at _ _ rfl
  have hth := there_of hnw 17 (by simp)
  have HTh : Hid ((w0.drew.alloc (.cells #[.int .i64 0, .int .i64 0, .int .i64 0, .int .i64 0, .int .i64 0, .int .i64 0, .int .i64 0, .int .i64 0, .int .i64 0, .int .i64 0, .int .i64 0, .int .i64 0, .int .i64 0, .int .i64 0, .int .i64 0, .int .u64 0, .int .u64 0] 53)).there w0.heap.size 0 (st17 0 (l 1) nr n1 n2 c0 c1 l c2 c3).length) := hth
  have HBd : Hid (Below w.heap.size w w0.drew) := Below.thr HB.out (below_d _)
  have HBs : Hid (Below w.heap.size w ((w0.drew.alloc (.cells #[.int .i64 0, .int .i64 0, .int .i64 0, .int .i64 0, .int .i64 0, .int .i64 0, .int .i64 0, .int .i64 0, .int .i64 0, .int .i64 0, .int .i64 0, .int .i64 0, .int .i64 0, .int .i64 0, .int .i64 0, .int .u64 0, .int .u64 0] 53)).setCells w0.heap.size 0 (st17 0 (l 1) nr n1 n2 c0 c1 l c2 c3))) := Below.cells HBa.out HB.out.size _ _
  have hrs := World.rangeAt_setCells_same (w0.drew.alloc (.cells #[.int .i64 0, .int .i64 0, .int .i64 0, .int .i64 0, .int .i64 0, .int .i64 0, .int .i64 0, .int .i64 0, .int .i64 0, .int .i64 0, .int .i64 0, .int .i64 0, .int .i64 0, .int .i64 0, .int .i64 0, .int .u64 0, .int .u64 0] 53)) w0.heap.size 0 (st17 0 (l 1) nr n1 n2 c0 c1 l c2 c3) hth
  have hfz : ((w0.drew.alloc (.cells #[.int .i64 0, .int .i64 0, .int .i64 0, .int .i64 0, .int .i64 0, .int .i64 0, .int .i64 0, .int .i64 0, .int .i64 0, .int .i64 0, .int .i64 0, .int .i64 0, .int .i64 0, .int .i64 0, .int .i64 0, .int .u64 0, .int .u64 0] 53)).setCells w0.heap.size 0 (st17 0 (l 1) nr n1 n2 c0 c1 l c2 c3)).frozen? ⟨w0.heap.size, 0, none⟩ = false := by rw [World.frozen?_setCells]; exact (hth 0 (by omega)).2
  have HX : Hid (((w0.drew.alloc (.cells #[.int .i64 0, .int .i64 0, .int .i64 0, .int .i64 0, .int .i64 0, .int .i64 0, .int .i64 0, .int .i64 0, .int .i64 0, .int .i64 0, .int .i64 0, .int .i64 0, .int .i64 0, .int .i64 0, .int .i64 0, .int .u64 0, .int .u64 0] 53)).setCells w0.heap.size 0 (st17 0 (l 1) nr n1 n2 c0 c1 l c2 c3)).cell? ⟨w0.heap.size, 0, none⟩ = some (.int .i64 0) ∧ ((w0.drew.alloc (.cells #[.int .i64 0, .int .i64 0, .int .i64 0, .int .i64 0, .int .i64 0, .int .i64 0, .int .i64 0, .int .i64 0, .int .i64 0, .int .i64 0, .int .i64 0, .int .i64 0, .int .i64 0, .int .i64 0, .int .i64 0, .int .u64 0, .int .u64 0] 53)).setCells w0.heap.size 0 (st17 0 (l 1) nr n1 n2 c0 c1 l c2 c3)).cell? ⟨w0.heap.size, 3, none⟩ = some (.int .i64 n1) ∧ ((w0.drew.alloc (.cells #[.int .i64 0, .int .i64 0, .int .i64 0, .int .i64 0, .int .i64 0, .int .i64 0, .int .i64 0, .int .i64 0, .int .i64 0, .int .i64 0, .int .i64 0, .int .i64 0, .int .i64 0, .int .i64 0, .int .i64 0, .int .u64 0, .int .u64 0] 53)).setCells w0.heap.size 0 (st17 0 (l 1) nr n1 n2 c0 c1 l c2 c3)).cell? ⟨w0.heap.size, 5, none⟩ = some (.int .i64 c0) ∧ ((w0.drew.alloc (.cells #[.int .i64 0, .int .i64 0, .int .i64 0, .int .i64 0, .int .i64 0, .int .i64 0, .int .i64 0, .int .i64 0, .int .i64 0, .int .i64 0, .int .i64 0, .int .i64 0, .int .i64 0, .int .i64 0, .int .i64 0, .int .u64 0, .int .u64 0] 53)).setCells w0.heap.size 0 (st17 0 (l 1) nr n1 n2 c0 c1 l c2 c3)).frozen? ⟨w0.heap.size, 0, none⟩ = false) := ⟨hrs 0 _ rfl, hrs 3 _ rfl, hrs 5 _ rfl, hfz⟩
  have hlt : w.heap.size < w0.heap.size := heap_lt HZ.out
  obtain ⟨ob, hob⟩ : ∃ ob, wrap64 (wrap64 (256 - n1) - c0) = ob := ⟨_, rfl⟩
  have hRow : (((w0.drew.alloc (.cells #[.int .i64 0, .int .i64 0, .int .i64 0, .int .i64 0, .int .i64 0, .int .i64 0, .int .i64 0, .int .i64 0, .int .i64 0, .int .i64 0, .int .i64 0, .int .i64 0, .int .i64 0, .int .i64 0, .int .i64 0, .int .u64 0, .int .u64 0] 53)).setCells w0.heap.size 0 (st17 0 (l 1) nr n1 n2 c0 c1 l c2 c3)).setCell ⟨w0.heap.size, 0, none⟩ (.int .i64 ob)).rangeAt w0.heap.size 0 (st17 ob (l 1) nr n1 n2 c0 c1 l c2 c3) := by
    exact st17_set hrs
  have HRow := hideIt hRow
  have hz2 : (((w0.drew.alloc (.cells #[.int .i64 0, .int .i64 0, .int .i64 0, .int .i64 0, .int .i64 0, .int .i64 0, .int .i64 0, .int .i64 0, .int .i64 0, .int .i64 0, .int .i64 0, .int .i64 0, .int .i64 0, .int .i64 0, .int .i64 0, .int .u64 0, .int .u64 0] 53)).setCells w0.heap.size 0 (st17 0 (l 1) nr n1 n2 c0 c1 l c2 c3)).setCell ⟨w0.heap.size, 0, none⟩ (.int .i64 ob)).heap[w.heap.size]? = some (.cells #[.int .i64 0, .int .i64 0, .int .i64 0, .int .i64 0, .int .i64 0, .int .i64 0, .int .i64 0, .int .i64 0, .int .i64 0, .int .i64 0, .int .i64 0, .int .i64 0, .int .i64 0, .int .i64 0, .int .i64 0, .int .u64 0, .int .u64 0] 53 (0, 0)) := by
    have k1 : Below w0.heap.size w0 ((((w0.drew.alloc (.cells #[.int .i64 0, .int .i64 0, .int .i64 0, .int .i64 0, .int .i64 0, .int .i64 0, .int .i64 0, .int .i64 0, .int .i64 0, .int .i64 0, .int .i64 0, .int .i64 0, .int .i64 0, .int .i64 0, .int .i64 0, .int .u64 0, .int .u64 0] 53)).setCells w0.heap.size 0 (st17 0 (l 1) nr n1 n2 c0 c1 l c2 c3)).setCell ⟨w0.heap.size, 0, none⟩ (.int .i64 ob))) := (Below.cells (Below.thr (below_d _) (alloc_below _)) (Nat.le_refl _) _ _).setCell (p := ⟨w0.heap.size, 0, none⟩) (Nat.le_refl _) _
    exact (k1.block w.heap.size hlt).trans HZ.out
  have hth2 := there_of hz2 17 (by simp)
  have HTh2 : Hid ((((w0.drew.alloc (.cells #[.int .i64 0, .int .i64 0, .int .i64 0, .int .i64 0, .int .i64 0, .int .i64 0, .int .i64 0, .int .i64 0, .int .i64 0, .int .i64 0, .int .i64 0, .int .i64 0, .int .i64 0, .int .i64 0, .int .i64 0, .int .u64 0, .int .u64 0] 53)).setCells w0.heap.size 0 (st17 0 (l 1) nr n1 n2 c0 c1 l c2 c3)).setCell ⟨w0.heap.size, 0, none⟩ (.int .i64 ob)).there w.heap.size 0 (st17 ob (l 1) nr n1 n2 c0 c1 l c2 c3).toArray.size) := hth2
  have HLd := hideIt (run_loadVar_mid ((((w0.drew.alloc (.cells #[.int .i64 0, .int .i64 0, .int .i64 0, .int .i64 0, .int .i64 0, .int .i64 0, .int .i64 0, .int .i64 0, .int .i64 0, .int .i64 0, .int .i64 0, .int .i64 0, .int .i64 0, .int .i64 0, .int .i64 0, .int .u64 0, .int .u64 0] 53)).setCells w0.heap.size 0 (st17 0 (l 1) nr n1 n2 c0 c1 l c2 c3)).setCell ⟨w0.heap.size, 0, none⟩ (.int .i64 ob)).setCells w.heap.size 0 (st17 ob (l 1) nr n1 n2 c0 c1 l c2 c3)) w.heap.size 0 53 _ _ (World.rangeAt_setCells_same _ w.heap.size 0 (st17 ob (l 1) nr n1 n2 c0 c1 l c2 c3) hth2) Tryz.underlying53 rfl (by kernel_rfl))
  have HF : Hid (SsPost nr n1 n2 c0 c1 l c2 c3 w (.returned (.agg (st17 ob (l 1) nr n1 n2 c0 c1 l c2 c3).toArray)) ((((w0.drew.alloc (.cells #[.int .i64 0, .int .i64 0, .int .i64 0, .int .i64 0, .int .i64 0, .int .i64 0, .int .i64 0, .int .i64 0, .int .i64 0, .int .i64 0, .int .i64 0, .int .i64 0, .int .i64 0, .int .i64 0, .int .i64 0, .int .u64 0, .int .u64 0] 53)).setCells w0.heap.size 0 (st17 0 (l 1) nr n1 n2 c0 c1 l c2 c3)).setCell ⟨w0.heap.size, 0, none⟩ (.int .i64 ob)).setCells w.heap.size 0 (st17 ob (l 1) nr n1 n2 c0 c1 l c2 c3))) := ⟨by rw [hob], Below.cells (HBs.out.setCell (p := ⟨w0.heap.size, 0, none⟩) (Nat.le_of_lt hlt) _) (Nat.le_refl _) _ _⟩
  clear hnw hth hrs hfz hRow hz2 hth2 hlt
  refine wpAnyH_all (rs := [12, 38]) (by kernel_rfl) (by simp) (fun j hj => ?_)
  simp only [List.mem_cons, List.not_mem_nil, or_false] at hj
  rcases hj with rfl | rfl
  · refine opH_call (d := some 16) (f := 48) (args := #[.pointer (some ⟨A, 2560, none⟩), .int .u16 0, .int .u16 256]) rfl (by go_simp) ?_
    refine (HC1.out _ HBd.out).mono ?_
    rintro e w' ⟨rfl, hw'⟩
    obtain rfl := hw'.symm
    clear hw'
    refine ⟨_, rfl, HKP.out _ HBd.out, ?_⟩
    clear hHeld
    have hHeld := HKP.out _ HBd.out
    simp only [Act.put, List.setIfInBounds_toArray, List.set_cons_zero, List.set_cons_succ]
    refine wpAnyH_all (rs := [16, 38]) (by kernel_rfl) (by simp) (fun j hj => ?_)
    simp only [List.mem_cons, List.not_mem_nil, or_false] at hj
    rcases hj with rfl | rfl
    · refine opH_call (d := some 20) (f := 48) (args := #[.pointer (some ⟨A, 2560, none⟩), .int .u16 256, .int .u16 320]) rfl (by go_simp) ?_
      refine (HC2.out _ HBd.out).mono ?_
      rintro e w' ⟨rfl, hw'⟩
      obtain rfl := hw'.symm
      clear hw'
      refine ⟨_, rfl, HKP.out _ HBd.out, ?_⟩
      clear hHeld
      have hHeld := HKP.out _ HBd.out
      simp only [Act.put, List.setIfInBounds_toArray, List.set_cons_zero, List.set_cons_succ]
      refine anyH_do (i := 37) (d := some 41) (v := (.agg #[.int .i64 0, .int .i64 (l 1), .int .i64 nr, .int .i64 n1, .int .i64 n2, .int .i64 c0, .int .i64 c1, .int .i64 (l 0), .int .i64 (l 1), .int .i64 (l 2), .int .i64 (l 3), .int .i64 (l 4), .int .i64 (l 5), .int .i64 (l 6), .int .i64 (l 7), .int .u64 c2, .int .u64 c3])) rfl (by kernel_rfl) (by kernel_rfl) (by kernel_rfl) (fun _ _ _ h => h) (by intro w hw; go_simp) hHeld ?_
      simp only [Act.put, List.setIfInBounds_toArray, List.set_cons_zero, List.set_cons_succ]
      refine wpAnyH_all (rs := [38]) (by kernel_rfl) (by simp) (fun j hj => ?_)
      rw [List.mem_singleton.1 hj]
      clear hj
      refine opH_val (d := some 3) (v := .pointer (some ⟨w0.heap.size, 0, none⟩)) (w1 := (w0.drew.alloc (.cells #[.int .i64 0, .int .i64 0, .int .i64 0, .int .i64 0, .int .i64 0, .int .i64 0, .int .i64 0, .int .i64 0, .int .i64 0, .int .i64 0, .int .i64 0, .int .i64 0, .int .i64 0, .int .i64 0, .int .i64 0, .int .u64 0, .int .u64 0] 53))) rfl (by go_simp) ?_
      refine ⟨HKP.out _ HBa.out, ?_⟩
      clear hHeld
      have hHeld := HKP.out _ HBa.out
      simp only [Act.put, List.setIfInBounds_toArray, List.set_cons_zero, List.set_cons_succ]
      refine anyH_store (i := 39) (b := w0.heap.size) (o := 0) (cs := st17 0 (l 1) nr n1 n2 c0 c1 l c2 c3) rfl rfl rfl (by kernel_rfl) (by kernel_rfl) HTh.out size53 (st17_one _ _ _ _ _ _ _ _ _ _) (HKP.out _ HBs.out) ?_
      clear hHeld
      generalize (w0.drew.alloc (.cells #[.int .i64 0, .int .i64 0, .int .i64 0, .int .i64 0, .int .i64 0, .int .i64 0, .int .i64 0, .int .i64 0, .int .i64 0, .int .i64 0, .int .i64 0, .int .i64 0, .int .i64 0, .int .i64 0, .int .i64 0, .int .u64 0, .int .u64 0] 53)).setCells w0.heap.size 0 (st17 0 (l 1) nr n1 n2 c0 c1 l c2 c3) = w3 at *
      obtain ⟨x0, x3, x5, f0⟩ := HX.out
      have HO := hideIt (st17_one ob (l 1) nr n1 n2 c0 c1 l c2 c3)
      have HSZ : Hid ((Tryz.prog.info? 53).map (·.size) = some (st17 ob (l 1) nr n1 n2 c0 c1 l c2 c3).length) := size53
      obtain ⟨d53, hun, hd53⟩ : ∃ d, Tryz.prog.underlying 53 = some d ∧ d.isRow = true := ⟨_, Tryz.underlying53, rfl⟩
      have HUN := hideIt hun
      have HD := hideIt hd53
      clear hun hd53
      generalize st17 ob (l 1) nr n1 n2 c0 c1 l c2 c3 = row at *
      go_wp2_with (first | (refine wpList_load_mid rfl 53 (.tmp 3) rfl w0.heap.size 0 rfl row d53 HRow.out HUN.out HD.out HSZ.out ?_) | (refine wpList_store_mid rfl 53 (.tmp 2) (.tmp 49) rfl w.heap.size 0 row.toArray rfl rfl (by first | exact HTh2.out | (rw [List.size_toArray]; exact HTh2.out)) (by rw [List.size_toArray]; exact HSZ.out) (all_oneCell_toArray HO.out) ?_; rw [List.toList_toArray]))
      exact bodyPost_ret (results_one (by exact Tryz.results16) _ _ w.heap.size _ (by rfl) HLd.out) rfl HF.out
    · refine opH_val (d := some 3) (v := .pointer (some ⟨w0.heap.size, 0, none⟩)) (w1 := (w0.drew.alloc (.cells #[.int .i64 0, .int .i64 0, .int .i64 0, .int .i64 0, .int .i64 0, .int .i64 0, .int .i64 0, .int .i64 0, .int .i64 0, .int .i64 0, .int .i64 0, .int .i64 0, .int .i64 0, .int .i64 0, .int .i64 0, .int .u64 0, .int .u64 0] 53))) rfl (by go_simp) ?_
      refine ⟨HKP.out _ HBa.out, ?_⟩
      clear hHeld
      have hHeld := HKP.out _ HBa.out
      simp only [Act.put, List.setIfInBounds_toArray, List.set_cons_zero, List.set_cons_succ]
      refine wpAnyH_all (rs := [16]) (by kernel_rfl) (by simp) (fun j hj => ?_)
      rw [List.mem_singleton.1 hj]
      clear hj
      refine opH_call (d := some 20) (f := 48) (args := #[.pointer (some ⟨A, 2560, none⟩), .int .u16 256, .int .u16 320]) rfl (by go_simp) ?_
      refine (HC2.out _ HBa.out).mono ?_
      rintro e w' ⟨rfl, hw'⟩
      obtain rfl := hw'.symm
      clear hw'
      refine ⟨_, rfl, HKP.out _ HBa.out, ?_⟩
      clear hHeld
      have hHeld := HKP.out _ HBa.out
      simp only [Act.put, List.setIfInBounds_toArray, List.set_cons_zero, List.set_cons_succ]
      refine anyH_do (i := 37) (d := some 41) (v := (.agg #[.int .i64 0, .int .i64 (l 1), .int .i64 nr, .int .i64 n1, .int .i64 n2, .int .i64 c0, .int .i64 c1, .int .i64 (l 0), .int .i64 (l 1), .int .i64 (l 2), .int .i64 (l 3), .int .i64 (l 4), .int .i64 (l 5), .int .i64 (l 6), .int .i64 (l 7), .int .u64 c2, .int .u64 c3])) rfl (by kernel_rfl) (by kernel_rfl) (by kernel_rfl) (fun _ _ _ h => h) (by intro w hw; go_simp) hHeld ?_
      simp only [Act.put, List.setIfInBounds_toArray, List.set_cons_zero, List.set_cons_succ]
      refine anyH_store (i := 39) (b := w0.heap.size) (o := 0) (cs := st17 0 (l 1) nr n1 n2 c0 c1 l c2 c3) rfl rfl rfl (by kernel_rfl) (by kernel_rfl) HTh.out size53 (st17_one _ _ _ _ _ _ _ _ _ _) (HKP.out _ HBs.out) ?_
      clear hHeld
      generalize (w0.drew.alloc (.cells #[.int .i64 0, .int .i64 0, .int .i64 0, .int .i64 0, .int .i64 0, .int .i64 0, .int .i64 0, .int .i64 0, .int .i64 0, .int .i64 0, .int .i64 0, .int .i64 0, .int .i64 0, .int .i64 0, .int .i64 0, .int .u64 0, .int .u64 0] 53)).setCells w0.heap.size 0 (st17 0 (l 1) nr n1 n2 c0 c1 l c2 c3) = w3 at *
      obtain ⟨x0, x3, x5, f0⟩ := HX.out
      have HO := hideIt (st17_one ob (l 1) nr n1 n2 c0 c1 l c2 c3)
      have HSZ : Hid ((Tryz.prog.info? 53).map (·.size) = some (st17 ob (l 1) nr n1 n2 c0 c1 l c2 c3).length) := size53
      obtain ⟨d53, hun, hd53⟩ : ∃ d, Tryz.prog.underlying 53 = some d ∧ d.isRow = true := ⟨_, Tryz.underlying53, rfl⟩
      have HUN := hideIt hun
      have HD := hideIt hd53
      clear hun hd53
      generalize st17 ob (l 1) nr n1 n2 c0 c1 l c2 c3 = row at *
      go_wp2_with (first | (refine wpList_load_mid rfl 53 (.tmp 3) rfl w0.heap.size 0 rfl row d53 HRow.out HUN.out HD.out HSZ.out ?_) | (refine wpList_store_mid rfl 53 (.tmp 2) (.tmp 49) rfl w.heap.size 0 row.toArray rfl rfl (by first | exact HTh2.out | (rw [List.size_toArray]; exact HTh2.out)) (by rw [List.size_toArray]; exact HSZ.out) (all_oneCell_toArray HO.out) ?_; rw [List.toList_toArray]))
      exact bodyPost_ret (results_one (by exact Tryz.results16) _ _ w.heap.size _ (by rfl) HLd.out) rfl HF.out
  · refine opH_val (d := some 3) (v := .pointer (some ⟨w0.heap.size, 0, none⟩)) (w1 := (w0.drew.alloc (.cells #[.int .i64 0, .int .i64 0, .int .i64 0, .int .i64 0, .int .i64 0, .int .i64 0, .int .i64 0, .int .i64 0, .int .i64 0, .int .i64 0, .int .i64 0, .int .i64 0, .int .i64 0, .int .i64 0, .int .i64 0, .int .u64 0, .int .u64 0] 53))) rfl (by go_simp) ?_
    refine ⟨HKP.out _ HBa.out, ?_⟩
    clear hHeld
    have hHeld := HKP.out _ HBa.out
    simp only [Act.put, List.setIfInBounds_toArray, List.set_cons_zero, List.set_cons_succ]
    refine wpAnyH_all (rs := [12]) (by kernel_rfl) (by simp) (fun j hj => ?_)
    rw [List.mem_singleton.1 hj]
    clear hj
    refine opH_call (d := some 16) (f := 48) (args := #[.pointer (some ⟨A, 2560, none⟩), .int .u16 0, .int .u16 256]) rfl (by go_simp) ?_
    refine (HC1.out _ HBa.out).mono ?_
    rintro e w' ⟨rfl, hw'⟩
    obtain rfl := hw'.symm
    clear hw'
    refine ⟨_, rfl, HKP.out _ HBa.out, ?_⟩
    clear hHeld
    have hHeld := HKP.out _ HBa.out
    simp only [Act.put, List.setIfInBounds_toArray, List.set_cons_zero, List.set_cons_succ]
    refine wpAnyH_all (rs := [16]) (by kernel_rfl) (by simp) (fun j hj => ?_)
    rw [List.mem_singleton.1 hj]
    clear hj
    refine opH_call (d := some 20) (f := 48) (args := #[.pointer (some ⟨A, 2560, none⟩), .int .u16 256, .int .u16 320]) rfl (by go_simp) ?_
    refine (HC2.out _ HBa.out).mono ?_
    rintro e w' ⟨rfl, hw'⟩
    obtain rfl := hw'.symm
    clear hw'
    refine ⟨_, rfl, HKP.out _ HBa.out, ?_⟩
    clear hHeld
    have hHeld := HKP.out _ HBa.out
    simp only [Act.put, List.setIfInBounds_toArray, List.set_cons_zero, List.set_cons_succ]
    refine anyH_do (i := 37) (d := some 41) (v := (.agg #[.int .i64 0, .int .i64 (l 1), .int .i64 nr, .int .i64 n1, .int .i64 n2, .int .i64 c0, .int .i64 c1, .int .i64 (l 0), .int .i64 (l 1), .int .i64 (l 2), .int .i64 (l 3), .int .i64 (l 4), .int .i64 (l 5), .int .i64 (l 6), .int .i64 (l 7), .int .u64 c2, .int .u64 c3])) rfl (by kernel_rfl) (by kernel_rfl) (by kernel_rfl) (fun _ _ _ h => h) (by intro w hw; go_simp) hHeld ?_
    simp only [Act.put, List.setIfInBounds_toArray, List.set_cons_zero, List.set_cons_succ]
    refine anyH_store (i := 39) (b := w0.heap.size) (o := 0) (cs := st17 0 (l 1) nr n1 n2 c0 c1 l c2 c3) rfl rfl rfl (by kernel_rfl) (by kernel_rfl) HTh.out size53 (st17_one _ _ _ _ _ _ _ _ _ _) (HKP.out _ HBs.out) ?_
    clear hHeld
    generalize (w0.drew.alloc (.cells #[.int .i64 0, .int .i64 0, .int .i64 0, .int .i64 0, .int .i64 0, .int .i64 0, .int .i64 0, .int .i64 0, .int .i64 0, .int .i64 0, .int .i64 0, .int .i64 0, .int .i64 0, .int .i64 0, .int .i64 0, .int .u64 0, .int .u64 0] 53)).setCells w0.heap.size 0 (st17 0 (l 1) nr n1 n2 c0 c1 l c2 c3) = w3 at *
    obtain ⟨x0, x3, x5, f0⟩ := HX.out
    have HO := hideIt (st17_one ob (l 1) nr n1 n2 c0 c1 l c2 c3)
    have HSZ : Hid ((Tryz.prog.info? 53).map (·.size) = some (st17 ob (l 1) nr n1 n2 c0 c1 l c2 c3).length) := size53
    obtain ⟨d53, hun, hd53⟩ : ∃ d, Tryz.prog.underlying 53 = some d ∧ d.isRow = true := ⟨_, Tryz.underlying53, rfl⟩
    have HUN := hideIt hun
    have HD := hideIt hd53
    clear hun hd53
    generalize st17 ob (l 1) nr n1 n2 c0 c1 l c2 c3 = row at *
    go_wp2_with (first | (refine wpList_load_mid rfl 53 (.tmp 3) rfl w0.heap.size 0 rfl row d53 HRow.out HUN.out HD.out HSZ.out ?_) | (refine wpList_store_mid rfl 53 (.tmp 2) (.tmp 49) rfl w.heap.size 0 row.toArray rfl rfl (by first | exact HTh2.out | (rw [List.size_toArray]; exact HTh2.out)) (by rw [List.size_toArray]; exact HSZ.out) (all_oneCell_toArray HO.out) ?_; rw [List.toList_toArray]))
    exact bodyPost_ret (results_one (by exact Tryz.results16) _ _ w.heap.size _ (by rfl) HLd.out) rfl HF.out
end
end Go.Proofs.Qxb6500847aGreatDoor.Os
