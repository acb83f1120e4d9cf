/-
  The model's Step, kind by kind.
-/
import Derived.Test.Qxb6500848aGreatDoorMoC
import Derived.Test.Qxb6500848aGreatDoorMtA
namespace Go.Proofs.Qxb6500848aGreatDoor
open Go.RowKit Pl Go.Maps
set_option maxRecDepth 100000

set_option maxHeartbeats 8000000 in
theorem step4 {Y : Nat → Prop} {w : World} {hb ab nb : Nat} {B : List Nd} {regs : List Int} (hM : Mo Y w hb ab nb B regs) (hl : regs.length ≤ 8) (oa ob oc o6 : Int) (wa pa : Option Addr) (wn wc pn pc : Nat) :
    Calls Tryz.prog 62 #[.pointer (some ⟨hb, 0, none⟩), .agg #[.int .i64 4, .int .i64 oa, .int .i64 ob, .int .i64 oc, .slice wa wn wc, .slice pa pn pc, .int .i64 o6]] w (StPost (Mend 4 oa ob oc B regs) Y w hb ab nb B) := by
  have lk := hM.lh
  obtain ⟨rv, m0, m1, hR⟩ := hM.cells
  have hrl : ∃ ra rc, rv = .slice ra regs.length rc := by
    rcases hR with ⟨e, e2⟩ | ⟨rb, off, cap, _, e, _⟩
    · exact ⟨none, 0, by rw [e, e2]; rfl⟩
    · exact ⟨_, cap, e⟩
  have HT0 := hideIt (SP.start hM (.cells #[.int .i64 4, .int .i64 oa, .int .i64 ob, .int .i64 oc, .slice wa wn wc, .slice pa pn pc, .int .i64 o6] 31))
  have hB0 : Below w.heap.size w ((w.alloc (.cells #[.int .i64 4, .int .i64 oa, .int .i64 ob, .int .i64 oc, .slice wa wn wc, .slice pa pn pc, .int .i64 o6] 31)).alloc (.cells #[.bool false, .bool false, .bool false, .bool false, .int .i64 0] 95)) := (alloc_below _).trans ((alloc_below _).mono (alloc_below _).size)
  have hop : ((w.alloc (.cells #[.int .i64 4, .int .i64 oa, .int .i64 ob, .int .i64 oc, .slice wa wn wc, .slice pa pn pc, .int .i64 o6] 31)).alloc (.cells #[.bool false, .bool false, .bool false, .bool false, .int .i64 0] 95)).heap[w.heap.size]? = some (.cells #[.int .i64 4, .int .i64 oa, .int .i64 ob, .int .i64 oc, .slice wa wn wc, .slice pa pn pc, .int .i64 o6] 31 (0, 0)) := ((alloc_below _).block _ (by rw [Deep.nblk_alloc]; omega)).trans (heap_new _ _)
  have HR := hideIt hR
  have Hval := hideIt hM.val
  have Hwf := hideIt hM.st.ar.wf
  have Hlen := hideIt hM.st.ar.len
  clear hM hR
  obtain ⟨ra, rc, rfl⟩ := hrl
  go_enter Tryz.func62, Tryz.ntmps62
  go_wp2_with fail
  go_at_call 101
  generalize hWW : ((w.alloc (.cells #[.int .i64 4, .int .i64 oa, .int .i64 ob, .int .i64 oc, .slice wa wn wc, .slice pa pn pc, .int .i64 o6] 31)).alloc (.cells #[.bool false, .bool false, .bool false, .bool false, .int .i64 0] 95)) = w1 at *
  have HT : Hid (SP Y w hb ab nb B regs (Plus' Y (w.heap.size + 1)) w1 nb B) := HT0.out
  generalize hYY : Plus' Y (w.heap.size + 1) = Y1 at *
  have HB0 := hideIt hB0
  have p0 : w1.cell? ⟨hb, 0, none⟩ = some (.pointer (some ⟨ab, 0, none⟩)) := (hB0.cell (p := ⟨hb, 0, none⟩) lk).trans m0
  have p1 : w1.cell? ⟨hb, 1, none⟩ = some (.slice ra regs.length rc) := (hB0.cell (p := ⟨hb, 1, none⟩) lk).trans m1
  have o0 := box_cell hop 0
  have o1 := box_cell hop 1
  have o2 := box_cell hop 2
  have o3 := box_cell hop 3
  have o4 := box_cell hop 4
  have o5 := box_cell hop 5
  simp only [List.getElem?_toArray, List.getElem?_cons_zero, List.getElem?_cons_succ] at o0 o1 o2 o3 o4 o5
  have Hop := hideIt hop
  have lo : w.heap.size < w1.heap.size := heap_lt hop
  clear HT0 hWW hB0 hop m0 m1 hYY
  refine (range_walkD oa ob _).mono ?_
  rintro e wR ⟨bR, lR, rfl, hWB, hCl, hlR', hge, hbR⟩
  have hlR := hideIt hlR'
  have HbR := hideIt hbR
  have HWB := hideIt hWB
  have HCl := hideIt hCl
  have Hge := hideIt hge
  clear hlR' hbR hWB hCl hge
  go_wp2_with fail
  go_at_call 100
  refine (class_walkN (HT.out.below HbR.out).mo.st (Int.le_refl _) (b := bR) (l := lR) HWB.out HCl.out (fun e => Nat.lt_irrefl _ (Nat.lt_of_lt_of_le (HT.out.mo.st.xlt _ e) Hge.out))).mono ?_
  rintro e w5 ⟨Y5, nb5, B5, z, ev, hG, rfl, hh⟩
  have HS5 := hideIt (HT.out.made HbR.out hG)
  have HLe := hideIt hG.le
  have HWf5 := hideIt hG.st.ar.wf
  clear hG
  rcases hh with ⟨rfl, hv, hadd⟩ | ⟨⟨t0, v0, rfl⟩, rfl, hfl, hBB, hno⟩
  · have HV := hideIt hv
    have HAdd := hideIt hadd
    clear hv hadd
    go_wp2_with fail
    go_at_call 99
    refine (keep_walk HS5.out.mo hl ⟨HV.out.valid, mk_class HWf5.out HV.out⟩).mono ?_
    rintro e wk hkp
    obtain ⟨Y9, regs9, b0, b2, rfl, hR9, hl9, hS9⟩ := HS5.out.kept (Below.refl _ _) hkp
    have HS9 := hideIt hS9
    have HR9 := hideIt hR9
    obtain ⟨q0, q1, q2, q3, q4, ⟨c0, c1, c2, c3, c4⟩, fz⟩ := hS9.rcells
    have f0 := fz 0
    have f1 := fz 1
    have f2 := fz 2
    have f3 := fz 3
    have f4 := fz 4
    clear fz hS9 hR9 hkp
    go_wp2_with fail
    have Hd := hideIt (HS9.out.done (R := Mend 4 oa ob oc B regs) hl9 (.bool b0) (.bool false) (.bool b2) (.bool false) (.int .i64 0) (Mend.ok HR9.out (by show Val B5 (classN (rangeL oa ob)) z ∧ Add B B5 (classN (rangeL oa ob)); rw [← hlR.out]; exact ⟨HV.out, HAdd.out⟩)))
    refine bodyPost_ret (v := .agg #[.bool b0, .bool false, .bool b2, .bool false, .int .i64 0]) ?_ rfl (by exact Hd.out.1)
    exact results_cell_row (by exact Tryz.results62) _ _ (w.heap.size + 1) _ _ _ _ (by rfl) (by exact Hd.out.2) Tryz.underlying95 rfl (by kernel_rfl)
  · have HF := hideIt hfl.1
    have HBB := hideIt hBB
    have HNo := hideIt hno
    clear hfl hBB hno
    go_wp2_with fail
    go_at_call 99
    refine (keep_full HS5.out.mo hl 0 t0 v0).mono ?_
    rintro e wk hkp
    obtain ⟨Y9, regs9, b0, b2, rfl, hR9, hl9, hS9⟩ := HS5.out.kept (Below.refl _ _) hkp
    have HS9 := hideIt hS9
    have HR9 := hideIt hR9
    obtain ⟨q0, q1, q2, q3, q4, ⟨c0, c1, c2, c3, c4⟩, fz⟩ := hS9.rcells
    have f0 := fz 0
    have f1 := fz 1
    have f2 := fz 2
    have f3 := fz 3
    have f4 := fz 4
    clear fz hS9 hR9 hkp
    go_wp2_with fail
    have Hd := hideIt (HS9.out.done (R := Mend 4 oa ob oc B regs) hl9 (.bool b0) (.bool false) (.bool b2) (.bool false) (.int .i64 0) (Mend.bad HR9.out ⟨HF.out, (by show B5 = B ∧ NoVal B (classN (rangeL oa ob)); rw [← hlR.out]; exact ⟨HBB.out, HNo.out⟩)⟩))
    refine bodyPost_ret (v := .agg #[.bool b0, .bool false, .bool b2, .bool false, .int .i64 0]) ?_ rfl (by exact Hd.out.1)
    exact results_cell_row (by exact Tryz.results62) _ _ (w.heap.size + 1) _ _ _ _ (by rfl) (by exact Hd.out.2) Tryz.underlying95 rfl (by kernel_rfl)
end Go.Proofs.Qxb6500848aGreatDoor
