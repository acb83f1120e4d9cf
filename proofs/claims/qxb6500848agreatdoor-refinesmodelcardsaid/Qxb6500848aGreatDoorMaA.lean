/-
  The model's languages: Deriv, Has, truth.
-/
import Derived.Test.Qxb6500848aGreatDoorMoC
import Derived.Test.Qxb6500848aGreatDoorHas
import Derived.Test.Qxb6500848aGreatDoorProbB
namespace Go.Proofs.Qxb6500848aGreatDoor
open Go.RowKit Pl Go.Maps
set_option maxRecDepth 100000

def resV (b : Bool) : Value := .agg #[.bool false, .bool false, .bool false, .bool true, .int .i64 (if b then 1 else 0)]

set_option maxHeartbeats 1000000 in
theorem truth_walk (b : Bool) (w : World) : Calls Tryz.prog 109 #[.bool b] w fun e w' => e = .returned (resV b) ∧ Below w.heap.size w w' := by
  cases b
  · go_enter Tryz.func109, Tryz.ntmps109
    go_wp2_with fail
    refine bodyPost_ret (v := resV false) ?_ rfl ⟨rfl, alloc_below _⟩
    exact results_cell_row (by exact Tryz.results109) _ _ (w.heap.size) _ _ _ _ (by rfl) (heap_new _ _) Tryz.underlying95 rfl (by kernel_rfl)
  · go_enter Tryz.func109, Tryz.ntmps109
    go_wp2_with fail
    refine bodyPost_ret (v := resV true) ?_ rfl ⟨rfl, alloc_below _⟩
    exact results_cell_row (by exact Tryz.results109) _ _ (w.heap.size) _ _ _ _ (by rfl) (heap_new _ _) Tryz.underlying95 rfl (by kernel_rfl)

theorem step_append_word {ops : Array Oper} {o : Oper} {a : Act} {w : World} {K : Act → World → Prop} {Q : Exit → Act → World → Prop} {E : Prop} (hgd : o.guard = none) (s x : Operand)
    (ho : o.op = .call { callee := .builtin .append, args := #[s, x], argTypes := #[24, 24] })
    (base : Nat) (v : Value) (n : Nat) (xs : List Value) (hs : a.eval s = v) (hown : w.ownsRow base 3 1 v n xs)
    (X : Nat → Prop) (u : Value) (wd : Word) (hx : a.eval x = u) (hI : Ints X w u wd) (hN : Nz u) (h63 : n + wd.length ≤ 1000000) (hbase : base ≤ w.heap.size) (m : Nat) (hm : n + wd.length = m) (ys : List Value) (hys : xs ++ wd.map encI = ys)
    (h : ∀ ad cap w', w'.ownsRow base 3 1 (.slice ad m cap) m ys → w.grownBy w' v.ownBlock → K (a.put o.dst (.slice ad m cap)) w') :
    if Region.wanted o (yielded ops a.tmps) = true then Oper.wp Tryz.prog o a w K Q else E := by
  have hw : Region.wanted o (yielded ops a.tmps) = true := by simp [Region.wanted, hgd]
  rw [if_pos hw]
  subst hm
  subst hys
  obtain ⟨i0, hi0, hz0, hz1, hz2⟩ := info_parts info_int
  obtain ⟨ad, cap, rfl, l1, l2, l3⟩ := hI
  have hform : ∀ {W : World} {b : Nat} {v : Value} {n : Nat} {xs : List Value}, W.ownsRow b 3 1 v n xs → ∃ ad cap, v = .slice ad n cap := fun q => by
    rcases q.2 with ⟨rfl, h0⟩ | ⟨g, c, cur, rfl, _⟩
    · exact ⟨none, 0, by rw [h0]⟩
    · exact ⟨_, _, rfl⟩
  have hgo : ∀ v' w', w'.ownsRow base 3 1 v' (n + wd.length) (xs ++ wd.map encI) → w.grownBy w' v.ownBlock → K (a.put o.dst v') w' := fun v' w' q r => by
    obtain ⟨ad', cap', rfl⟩ := hform q
    exact h ad' cap' w' q r
  have hsome : ∀ adr, ad = some adr → (∀ j u, (wd.map encI)[j]? = some u → w.cell? (adr.add j) = some u) → Oper.wp Tryz.prog o a w K Q := fun adr e hnews => by
    subst e
    obtain ⟨v', w', hr, h2, h3, h4, h5⟩ := run_append_own_at (P := Tryz.prog) w base 24 o.type 3 i0 (.int .i64 0) 1 8 Tryz.underlying24 hi0 hz0 hz1 hz2 rfl (by decide) v n xs hown adr wd.length cap (wd.map encI) (by simp) hnews (one_ints _) (by unfold maxLen; omega) (by omega) hbase
    unfold Oper.wp execOp
    simp only [ho, resolve, invoke, builtin, Sem.run_bind, Sem.run_pure, Result.andThen_ok, List.map_toArray, List.map_cons, List.map_nil, hs, hx, hr]
    exact hgo v' w' h2 h3
  by_cases hwd : wd = []
  · subst hwd
    cases ad with
    | none =>
      obtain ⟨_, rfl⟩ := hN _ cap rfl
      have hrun := run_append_owned_none (P := Tryz.prog) (w := w) base 24 o.type 3 i0 1 Tryz.underlying24 hi0 v n xs hown
      unfold Oper.wp
      simp only [execOp, ho, resolve, invoke, builtin, Sem.run_bind, Sem.run_pure, Result.andThen_ok, List.map_toArray, List.map_cons, List.map_nil, hs, hx, List.length_nil, hrun]
      exact hgo v w (by simpa using hown) (World.grownBy.refl _ _)
    | some adr => exact hsome adr rfl (fun j u hu => by simp at hu)
  · obtain ⟨g, o', rfl, _, hc⟩ := l3 hwd
    exact hsome _ rfl (ints_news hc)

theorem row_box {w : World} {base g : Nat} (h : w.heap[g]? = some (.cells #[] 3 (0, 0))) (hb : base ≤ g) : w.ownsRow base 3 1 (.slice (some ⟨g, 0, none⟩) 0 0) 0 [] :=
  ⟨by simp, Or.inr ⟨g, 0, _, rfl, hb, h, by simp, by simp [maxLen], by simp, by simp⟩⟩
theorem ints_box {w : World} {g : Nat} {c : Int} {X : Nat → Prop} (h : w.heap[g]? = some (.cells #[.int .i64 c] 3 (0, 0))) (hx : ¬ X g) : Ints X w (.slice (some ⟨g, 0, none⟩) 1 1) [c] :=
  ⟨_, 1, rfl, by simp, by simp [maxLen], fun _ => ⟨g, 0, rfl, hx, fun j hj => by
    have : j = 0 := by simp at hj; omega
    subst this
    rw [box_cell h]; rfl⟩⟩


theorem step_append_char {ops : Array Oper} {o : Oper} {a : Act} {w : World} {K : Act → World → Prop} {Q : Exit → Act → World → Prop} {E : Prop} (hgd : o.guard = none) (s x : Operand)
    (ho : o.op = .call { callee := .builtin .append, args := #[s, x], argTypes := #[24, 24] })
    (base : Nat) (v : Value) (pw : Word) (hs : a.eval s = v) (hown : w.ownsRow base 3 1 v pw.length (pw.map encI)) (hl : pw.length ≤ 65536)
    (g : Nat) (c : Int) (hx : a.eval x = .slice (some ⟨g, 0, none⟩) 1 1) (hc : w.heap[g]? = some (.cells #[.int .i64 c] 3 (0, 0))) (hbase : base ≤ w.heap.size)
    (h : ∀ ad cap w', w'.ownsRow base 3 1 (.slice ad (pw.length + 1) cap) (pw.length + 1) ((pw ++ [c]).map encI) → Below base w w' → K (a.put o.dst (.slice ad (pw.length + 1) cap)) w') :
    if Region.wanted o (yielded ops a.tmps) = true then Oper.wp Tryz.prog o a w K Q else E := by
  refine step_append_word hgd s x ho base v _ _ hs hown (fun _ => False) _ [c] hx (ints_box hc id) (fun _ _ e => by cases e) (by simp; omega) hbase (pw.length + 1) (by simp) ((pw ++ [c]).map encI) (by simp) ?_
  intro ad cap w' h1 h2
  exact h ad cap w' h1 ((Below.refl base w).grown h2 hbase (fun q e => (ownsRow_block hown e).1))

theorem two_heap {w : World} {r : Nat} {p0 p1 : Value} {t : TypeId} (h : w.heap[r]? = some (.cells #[p0, p1] t (0, 0))) (v0 v1 : Value) : ((w.setCell ⟨r, 0, none⟩ v0).setCell ⟨r, 1, none⟩ v1).heap[r]? = some (.cells #[v0, v1] t (0, 0)) := by
  simp only [World.setCell, Array.getElem?_modify, h]
  simp
theorem two_below {w : World} {r n : Nat} (hn : n ≤ r) (v0 v1 : Value) : Below n w ((w.setCell ⟨r, 0, none⟩ v0).setCell ⟨r, 1, none⟩ v1) := by
  refine ⟨rfl, rfl, rfl, by simp [World.setCell], fun b hb => ?_⟩
  have : r ≠ b := by omega
  simp [World.setCell, Array.getElem?_modify, this]
theorem grown_block {w w' : World} {row : Option Nat} (hg : w.grownBy w' row) {g : Nat} {ob : Obj} (h : w.heap[g]? = some ob) (hne : row ≠ some g) : w'.heap[g]? = some ob :=
  (hg.block g (heap_lt h) (fun e => hne e.symm)).trans h

def MdPost (x : Int) (l : Word) (w : World) (e : Ending) (w' : World) : Prop := ∃ ad n cap, e = .returned (.agg #[.int .i64 x, .slice ad n cap]) ∧ Ints (fun b => b < w.heap.size) w' (.slice ad n cap) l ∧ Nz (.slice ad n cap) ∧ Below w.heap.size w w'

theorem md_done {w w1 w6 : World} {x c : Int} {pw : Word} {ad : Option Addr} {n cap : Nat} (h1 : Below w.heap.size w w1) (hs : w1.heap.size = w.heap.size + 2) (hr : w1.heap[w.heap.size + 1]? = some (.cells #[.int .i64 0, .slice none 0 0] 150 (0, 0))) (hB : Below w1.heap.size w1 w6) (ho : w6.ownsRow w1.heap.size 3 1 (.slice ad n cap) n ((pw ++ [c]).map encI)) (hn : n = (pw ++ [c]).length) :
    MdPost x (pw ++ [c]) w (.returned (.agg #[.int .i64 x, .slice ad n cap])) ((w6.setCell ⟨w.heap.size + 1, 0, none⟩ (.int .i64 x)).setCell ⟨w.heap.size + 1, 1, none⟩ (.slice ad n cap)) ∧ ((w6.setCell ⟨w.heap.size + 1, 0, none⟩ (.int .i64 x)).setCell ⟨w.heap.size + 1, 1, none⟩ (.slice ad n cap)).heap[w.heap.size + 1]? = some (.cells #[.int .i64 x, .slice ad n cap] 150 (0, 0)) := by
  have hr6 := (hB.block (w.heap.size + 1) (by omega)).trans hr
  subst hn
  obtain ⟨hI, hN⟩ := own_intsT ho
  have s6 := hB.size
  refine ⟨⟨ad, _, cap, rfl, ?_, hN, ?_⟩, two_heap hr6 _ _⟩
  · obtain ⟨a, c', e, l1, l2, l3⟩ := hI
    refine ⟨a, c', e, l1, l2, fun hl => ?_⟩
    obtain ⟨g, o, rfl, hx, hc⟩ := l3 hl
    refine ⟨g, o, rfl, fun q => hx (by omega), fun j hj => ?_⟩
    have : w.heap.size + 1 ≠ g := fun q => hx (by omega)
    rw [← hc j hj]
    simp [World.cell?, World.setCell, Array.getElem?_modify, this]
  · exact (h1.trans (hB.mono h1.size)).trans ((two_below (n := w.heap.size) (by omega) _ _))

set_option maxHeartbeats 2000000 in
theorem mderiv_walk {X : Nat → Prop} {w : World} (x c : Int) {pa : Option Addr} {pn pc : Nat} {pw : Word} (hI : Ints X w (.slice pa pn pc) pw) (hN : Nz (.slice pa pn pc)) (hl : pw.length ≤ 65536) :
    Calls Tryz.prog 108 #[.agg #[.int .i64 x, .slice pa pn pc], .int .i64 c] w (MdPost x (pw ++ [c]) w) := by
  have s1 : ∀ (W : World) (o : Obj), (W.alloc o).heap.size = W.heap.size + 1 := Deep.nblk_alloc
  have hw1 : Below w.heap.size w ((w.alloc (.cells #[.int .i64 x, .slice pa pn pc] 150)).alloc (.cells #[.int .i64 0, .slice none 0 0] 150)) := (alloc_below _).trans ((alloc_below _).mono (alloc_below _).size)
  have hz1 : ((w.alloc (.cells #[.int .i64 x, .slice pa pn pc] 150)).alloc (.cells #[.int .i64 0, .slice none 0 0] 150)).heap.size = w.heap.size + 2 := by rw [s1, s1]
  have hr1 : ((w.alloc (.cells #[.int .i64 x, .slice pa pn pc] 150)).alloc (.cells #[.int .i64 0, .slice none 0 0] 150)).heap[w.heap.size + 1]? = some (.cells #[.int .i64 0, .slice none 0 0] 150 (0, 0)) := new_at _ _ (s1 _ _)
  have hb1 : ((w.alloc (.cells #[.int .i64 x, .slice pa pn pc] 150)).alloc (.cells #[.int .i64 0, .slice none 0 0] 150)).heap[w.heap.size]? = some (.cells #[.int .i64 x, .slice pa pn pc] 150 (0, 0)) := ((alloc_below _).block _ (by rw [s1]; omega)).trans (heap_new _ _)
  have HI := hideIt hI
  have HN := hideIt hN
  clear hI hN
  go_enter Tryz.func108, Tryz.ntmps108
  go_wp2_with fail
  generalize ((w.alloc (.cells #[.int .i64 x, .slice pa pn pc] 150)).alloc (.cells #[.int .i64 0, .slice none 0 0] 150)) = w1 at *
  have b0 := box_cell hb1 0
  have b1 := box_cell hb1 1
  simp only [List.getElem?_toArray, List.getElem?_cons_zero, List.getElem?_cons_succ] at b0 b1
  have HI1 : Hid (∀ W, Below w1.heap.size w1 W → Ints X W (.slice pa pn pc) pw) := fun W hW => HI.out.below (hw1.trans (hW.mono hw1.size)) (Nat.le_refl _)
  have HW1 := hideIt hw1
  have HZ1 := hideIt hz1
  have HR1 := hideIt hr1
  have BA : Hid (∀ o : Obj, Below w1.heap.size w1 (w1.alloc o).drew) := fun o => (alloc_below _).trans ((below_d _).mono (alloc_below _).size)
  have BB : Hid (∀ o o' : Obj, Below w1.heap.size w1 ((w1.alloc o).alloc o').drew) := fun o o' => ((alloc_below _).trans ((alloc_below _).mono (alloc_below _).size)).trans ((below_d _).mono (Nat.le_trans (alloc_below _).size (alloc_below _).size))
  have RA : Hid ((w1.alloc (.cells #[] 3)).drew.ownsRow w1.heap.size 3 1 (.slice (some ⟨w1.heap.size, 0, none⟩) 0 0) 0 []) := row_box ((below_d _).block _ (by rw [s1]; omega) |>.trans (heap_new _ _)) (Nat.le_refl _)
  have RB : Hid (((w1.alloc (.cells #[] 3)).alloc (.cells #[.int .i64 c] 3)).drew.ownsRow w1.heap.size 3 1 (.slice (some ⟨w1.heap.size, 0, none⟩) 0 0) 0 []) := row_box ((below_d _).block _ (by rw [s1, s1]; omega) |>.trans (((alloc_below _).block _ (by rw [s1]; omega)).trans (heap_new _ _))) (Nat.le_refl _)
  have CB : Hid (((w1.alloc (.cells #[] 3)).alloc (.cells #[.int .i64 c] 3)).drew.heap[w1.heap.size + 1]? = some (.cells #[.int .i64 c] 3 (0, 0))) := (below_d _).block _ (by rw [s1, s1]; omega) |>.trans (new_at _ _ (s1 _ _))
  have RC : Hid (((w1.alloc (.cells #[.int .i64 c] 3)).alloc (.cells #[] 3)).drew.ownsRow w1.heap.size 3 1 (.slice (some ⟨w1.heap.size + 1, 0, none⟩) 0 0) 0 []) := row_box ((below_d _).block _ (by rw [s1, s1]; omega) |>.trans (new_at _ _ (s1 _ _))) (by omega)
  have CC : Hid (((w1.alloc (.cells #[.int .i64 c] 3)).alloc (.cells #[] 3)).drew.heap[w1.heap.size]? = some (.cells #[.int .i64 c] 3 (0, 0))) := (below_d _).block _ (by rw [s1, s1]; omega) |>.trans (((alloc_below _).block _ (by rw [s1]; omega)).trans (heap_new _ _))
  have NB : Hid ((Value.slice (some ⟨w1.heap.size, 0, none⟩) 0 0).ownBlock ≠ some (w1.heap.size + 1)) := by show some w1.heap.size ≠ _; simp
  have NC : Hid ((Value.slice (some ⟨w1.heap.size + 1, 0, none⟩) 0 0).ownBlock ≠ some w1.heap.size) := by show some (w1.heap.size + 1) ≠ _; simp
  have lb : w.heap.size < w1.heap.size := by omega
  have lr : w.heap.size + 1 < w1.heap.size := by omega
  clear hw1 hz1 hr1 hb1 s1
  go_region_held3 (fun w' => w'.cell? ⟨w.heap.size, 0, none⟩ = some (.int .i64 x) ∧ w'.cell? ⟨w.heap.size, 1, none⟩ = some (.slice pa pn pc)) (go_keep)
    (first
      | (refine step_append_word rfl (.tmp 7) (.tmp 9) rfl w1.heap.size _ _ _ rfl RA.out X _ pw rfl (HI1.out _ (BA.out _)) HN.out (by omega) (BA.out _).size pw.length (Nat.zero_add _) _ rfl ?_; intro ad5 cap5 w5 hown hgr; have H5 := hideIt hown; have HB5 := hideIt ((BA.out _).grown hgr (BA.out _).size (fun q e => (ownsRow_block RA.out e).1)); have q0 := (HB5.out.cell (p := ⟨w.heap.size, 0, none⟩) lb).trans b0; have q1 := (HB5.out.cell (p := ⟨w.heap.size, 1, none⟩) lb).trans b1; clear hown hgr)
      | (refine step_append_word rfl (.tmp 7) (.tmp 9) rfl w1.heap.size _ _ _ rfl RB.out X _ pw rfl (HI1.out _ (BB.out _ _)) HN.out (by omega) (BB.out _ _).size pw.length (Nat.zero_add _) _ rfl ?_; intro ad5 cap5 w5 hown hgr; have H5 := hideIt hown; have HC5 := hideIt (grown_block hgr CB.out NB.out); have HB5 := hideIt ((BB.out _ _).grown hgr (BB.out _ _).size (fun q e => (ownsRow_block RB.out e).1)); have q0 := (HB5.out.cell (p := ⟨w.heap.size, 0, none⟩) lb).trans b0; have q1 := (HB5.out.cell (p := ⟨w.heap.size, 1, none⟩) lb).trans b1; clear hown hgr)
      | (refine step_append_word rfl (.tmp 7) (.tmp 9) rfl w1.heap.size _ _ _ rfl RC.out X _ pw rfl (HI1.out _ (BB.out _ _)) HN.out (by omega) (BB.out _ _).size pw.length (Nat.zero_add _) _ rfl ?_; intro ad5 cap5 w5 hown hgr; have H5 := hideIt hown; have HC5 := hideIt (grown_block hgr CC.out NC.out); have HB5 := hideIt ((BB.out _ _).grown hgr (BB.out _ _).size (fun q e => (ownsRow_block RC.out e).1)); have q0 := (HB5.out.cell (p := ⟨w.heap.size, 0, none⟩) lb).trans b0; have q1 := (HB5.out.cell (p := ⟨w.heap.size, 1, none⟩) lb).trans b1; clear hown hgr)
      | (refine step_append_char rfl (.tmp 10) (.tmp 12) rfl w1.heap.size _ pw rfl H5.out hl _ c rfl HC5.out HB5.out.size ?_; intro ad6 cap6 w6 hown hgr; have H6 := hideIt hown; have HB6 := hideIt (HB5.out.trans hgr); have q0 := (HB6.out.cell (p := ⟨w.heap.size, 0, none⟩) lb).trans b0; have q1 := (HB6.out.cell (p := ⟨w.heap.size, 1, none⟩) lb).trans b1; have hr6 := (HB6.out.block (w.heap.size + 1) lr).trans HR1.out; have r0 := box_cell hr6 0; have r1 := box_cell hr6 1; have f0 : w6.frozen? ⟨w.heap.size + 1, 0, none⟩ = false := (by simp [World.frozen?, hr6]); have f1 : w6.frozen? ⟨w.heap.size + 1, 1, none⟩ = false := (by simp [World.frozen?, hr6]); simp only [List.getElem?_toArray, List.getElem?_cons_zero, List.getElem?_cons_succ] at r0 r1; clear hown hgr hr6)
      | (refine step_append_char rfl (.tmp 10) (.tmp 12) rfl w1.heap.size _ pw rfl (H5.out.alloc _) hl _ c rfl (heap_new _ _) (HB5.out.alloc HB5.out.size _).size ?_; intro ad6 cap6 w6 hown hgr; have H6 := hideIt hown; have HB6 := hideIt ((HB5.out.alloc HB5.out.size _).trans hgr); have q0 := (HB6.out.cell (p := ⟨w.heap.size, 0, none⟩) lb).trans b0; have q1 := (HB6.out.cell (p := ⟨w.heap.size, 1, none⟩) lb).trans b1; have hr6 := (HB6.out.block (w.heap.size + 1) lr).trans HR1.out; have r0 := box_cell hr6 0; have r1 := box_cell hr6 1; have f0 : w6.frozen? ⟨w.heap.size + 1, 0, none⟩ = false := (by simp [World.frozen?, hr6]); have f1 : w6.frozen? ⟨w.heap.size + 1, 1, none⟩ = false := (by simp [World.frozen?, hr6]); simp only [List.getElem?_toArray, List.getElem?_cons_zero, List.getElem?_cons_succ] at r0 r1; clear hown hgr hr6))
  all_goals (try go_wp2_with fail)
  all_goals (have Hd := hideIt (md_done (x := x) HW1.out HZ1.out HR1.out HB6.out H6.out (by simp)))
  all_goals refine bodyPost_ret (v := .agg #[.int .i64 x, .slice ad6 (pw.length + 1) cap6]) ?_ rfl (by exact Hd.out.1)
  all_goals exact results_cell_row (by exact Tryz.results108) _ _ (w.heap.size + 1) _ _ _ _ (by rfl) (by exact Hd.out.2) Tryz.underlying150 rfl (by kernel_rfl)
end Go.Proofs.Qxb6500848aGreatDoor
