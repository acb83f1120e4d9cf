/-
  The walk of build, kind by kind.
-/
import Derived.Test.Qxb6500848aGreatDoorBuildD
namespace Go.Proofs.Qxb6500848aGreatDoor
open Go.RowKit Pl Go.Maps
set_option maxRecDepth 100000

set_option maxHeartbeats 4000000 in
theorem build0 {X : Nat → Prop} {w : World} {kb eb mb ab nb : Nat} {A : List Nd} {regs : List Int} (hM : Mc X w kb eb mb ab nb 65536 A regs) (hl : regs.length ≤ 8) {B0 : Nat} (hX : ∀ z, X z → B0 ≤ z) (hB : B0 ≤ w.heap.size) (oa ob oc o6 : Int) (wa pa : Option Addr) (wn wc pn pc : Nat) :
    Calls Tryz.prog 65 #[.pointer (some ⟨kb, 0, none⟩), .agg #[.int .i64 0, .int .i64 oa, .int .i64 ob, .int .i64 oc, .slice wa wn wc, .slice pa pn pc, .int .i64 o6]] w (BdPost X A B0 kb eb mb ab w) := by
  obtain ⟨rv, k0, k1, k2, hR⟩ := hM.cells
  have HM := hideIt hM
  have lk := hM.lk
  have hrl : ∃ ra rc, rv = .slice ra regs.length rc := by
    rcases hR with ⟨e, e2⟩ | ⟨rb, off, cap, _, e, _⟩
    · exact ⟨none, 0, by rw [e, e2]; rfl⟩
    · exact ⟨_, cap, e⟩
  obtain ⟨ra, rc, rfl⟩ := hrl
  clear hM hR
  go_enter Tryz.func65, Tryz.ntmps65
  go_wp2_with fail
  go_at_call 112
  have HT0 := hideIt (BT.start HM.out hX hB (.cells #[.int .i64 0, .int .i64 oa, .int .i64 ob, .int .i64 oc, .slice wa wn wc, .slice pa pn pc, .int .i64 o6] 31))
  have Hz : Hid (Valid A 0 ∧ sz A 0 ≤ 100) := ⟨HM.out.en.st.ar.wf.v0, by rw [sz0 HM.out.en.st.ar.wf]; omega⟩
  generalize hWW : ((w.alloc (.cells #[.int .i64 0, .int .i64 oa, .int .i64 ob, .int .i64 oc, .slice wa wn wc, .slice pa pn pc, .int .i64 o6] 31)).alloc (.cells #[.bool false, .bool false, .bool false, .bool false, .int .i64 0] 95)) = w1 at *
  have HT : Hid (BT X A w kb eb mb ab regs B0 (fun b => X b ∨ b = w.heap.size + 1) w1 nb A) := HT0.out
  generalize (fun b => X b ∨ b = w.heap.size + 1) = X1 at *
  clear HT0 hWW k0 k1 k2 HM
  refine (size_walk HT.out.mc.en.st _ 0 rfl Hz.out.1 (by have := Hz.out.2; omega)).mono ?_
  rintro e wS ⟨rfl, hwS⟩
  obtain ⟨n, hsn⟩ : ∃ n : Nat, n = sz A 0 := ⟨_, rfl⟩
  rw [← hsn]
  have hn100 : n ≤ 100 := by rw [hsn]; exact Hz.out.2
  have Hsm : Hid (n ≤ 18 → Sm A 0) := fun h => ⟨Hz.out.1, by rw [← hsn]; exact h⟩
  clear hsn
  obtain rfl := hwS.symm
  obtain ⟨q0, q1, q2, q3, q4, ⟨c0, c1, c2, c3, c4⟩, fz⟩ := HT.out.rcells
  have f0 := fz 0
  have f1 := fz 1
  have f2 := fz 2
  have f3 := fz 3
  have f4 := fz 4
  clear fz
  by_cases hs : (18 : Int) < (n : Int)
  · go_wp2_with fail
    have Hd := hideIt ((HT.out).done hl false false false false 0)
    refine bodyPost_ret (v := .agg #[.bool false, .bool false, .bool false, .bool false, .int .i64 0]) ?_ rfl (by exact Hd.out.1)
    exact results_cell_row (by exact Tryz.results65) _ _ (w.heap.size + 1) _ _ _ _ (by rfl) (by exact Hd.out.2) Tryz.underlying95 rfl (by kernel_rfl)
  · have Hs := hideIt (Hsm.out (by omega))
    obtain ⟨rv1, k0, _, k2, hR1⟩ := HT.out.mc.cells
    have kz := HT.out.kfz
    have l1 : kb < w1.heap.size := HT.out.mc.lk
    have l2 : w.heap.size + 1 < w1.heap.size := HT.out.lt
    have HA : Hid (Below w1.heap.size w1 (w1.alloc (.cells #[.int .i64 0] 28))) := alloc_below _
    obtain ⟨i0, hi0, hz0, hz1, hz2⟩ := info_parts info_id
    have HR1 := hideIt hR1
    rcases hR1 with ⟨rfl, rfl⟩ | ⟨rb, off, cap, cells, rfl, xr, ⟨n1, n2, n3, n4⟩, hh, r1, r2, r3, r4⟩
    · have Hm : Hid (0 = ([] : List Int).length) := rfl
      go_wp2_with (at_builtin; refine wpList_append_grows _ rfl (.tmp 251) (.tmp 253) 37 rfl 28 i0 (.int .i64 0) 1 8 Tryz.underlying37 hi0 hz0 hz1 hz2 rfl (by decide) none 0 0 (([] : List Int).map encI) rfl (fun _ => ⟨rfl, rfl⟩) rfl (fun b e => by cases e) ⟨w1.heap.size, 0, none⟩ 1 1 [encI 0] rfl rfl (World.news_of_block (cs := #[.int .i64 0]) (t := 28) (fr := (0, 0)) (heap_new _ _)) (one_ints [0]) (by omega) (by unfold maxLen; omega) (by omega) ?_; intro v' w3 hown hg; (obtain ⟨g, cap', X', rfl, g1, g2, hbel, HB⟩ := HT.out.appended HA.out Hm.out (by first | exact hown | (rw [Deep.nblk_alloc]; exact hown)) (by exact hg) Hs.out; have k2' := (hbel.cell (p := ⟨kb, 2, none⟩) l1).trans k2; have kz' := (hbel.frozen (p := ⟨kb, 2, none⟩) l1).trans kz; have c0' := (hbel.cell (p := ⟨w.heap.size + 1, 0, none⟩) l2).trans c0; have c1' := (hbel.cell (p := ⟨w.heap.size + 1, 1, none⟩) l2).trans c1; have c2' := (hbel.cell (p := ⟨w.heap.size + 1, 2, none⟩) l2).trans c2; have c3' := (hbel.cell (p := ⟨w.heap.size + 1, 3, none⟩) l2).trans c3; have c4' := (hbel.cell (p := ⟨w.heap.size + 1, 4, none⟩) l2).trans c4; have f0' := (hbel.frozen (p := ⟨w.heap.size + 1, 0, none⟩) l2).trans f0; have f1' := (hbel.frozen (p := ⟨w.heap.size + 1, 1, none⟩) l2).trans f1; have f2' := (hbel.frozen (p := ⟨w.heap.size + 1, 2, none⟩) l2).trans f2; have f3' := (hbel.frozen (p := ⟨w.heap.size + 1, 3, none⟩) l2).trans f3; have f4' := (hbel.frozen (p := ⟨w.heap.size + 1, 4, none⟩) l2).trans f4; clear hown hg hbel))
      have Hd := hideIt ((HB.out).done (by simp) true false false false 0)
      refine bodyPost_ret (v := .agg #[.bool true, .bool false, .bool false, .bool false, .int .i64 0]) ?_ rfl (by exact Hd.out.1)
      exact results_cell_row (by exact Tryz.results65) _ _ (w.heap.size + 1) _ _ _ _ (by rfl) (by exact Hd.out.2) Tryz.underlying95 rfl (by kernel_rfl)

    · obtain ⟨m, hm⟩ : ∃ m, m = regs.length := ⟨_, rfl⟩
      rw [← hm] at HR1 k2 hl r2
      have Hm := hideIt hm
      obtain ⟨hag, hsp⟩ := HR1.out.arg hm HA.out
      have Hag := hideIt hag
      have Hsp := hideIt hsp
      have lr := heap_lt hh
      clear hag hsp r1 r4 hh hm
      have n5 : rb ≠ w.heap.size + 1 := HT.out.sp.dr rb off _ cap k2
      by_cases h8 : m = 8
      · have Hl : Hid ((regs ++ [0]).tail.length ≤ 8) := by
          have := Hm.out
          show _ ≤ _
          simp
          omega
        subst h8
        go_wp2_with (at_builtin; refine wpList_append_arg _ rfl (.tmp 251) (.tmp 253) 37 rfl 28 i0 (.int .i64 0) 1 8 Tryz.underlying37 hi0 hz0 hz1 hz2 rfl (by decide) rb off 8 cap (regs.map encI) rfl (by have := Hm.out; rw [List.length_map]; omega) (by exact Hag.out) ⟨w1.heap.size, 0, none⟩ 1 1 [encI 0] rfl rfl (World.news_of_block (cs := #[.int .i64 0]) (t := 28) (fr := (0, 0)) (heap_new _ _)) (one_ints [0]) (by exact Hsp.out) (by unfold maxLen; omega) (by omega) ?room ?grow)
        case room =>
          intro hroom
          rw [show ∀ (W : World) (b o : Nat) (v : Value), W.setCells b o [v] = W.setCell ⟨b, o, none⟩ v from fun _ _ _ _ => rfl]
          have HB := HT.out.roomed HA.out Hm.out k2 HR1.out hroom Hs.out
          (have hbel := HA.out; have k2' := (hbel.cell (p := ⟨kb, 2, none⟩) l1).trans k2; have kz' := (hbel.frozen (p := ⟨kb, 2, none⟩) l1).trans kz; have c0' := (hbel.cell (p := ⟨w.heap.size + 1, 0, none⟩) l2).trans c0; have c1' := (hbel.cell (p := ⟨w.heap.size + 1, 1, none⟩) l2).trans c1; have c2' := (hbel.cell (p := ⟨w.heap.size + 1, 2, none⟩) l2).trans c2; have c3' := (hbel.cell (p := ⟨w.heap.size + 1, 3, none⟩) l2).trans c3; have c4' := (hbel.cell (p := ⟨w.heap.size + 1, 4, none⟩) l2).trans c4; have f0' := (hbel.frozen (p := ⟨w.heap.size + 1, 0, none⟩) l2).trans f0; have f1' := (hbel.frozen (p := ⟨w.heap.size + 1, 1, none⟩) l2).trans f1; have f2' := (hbel.frozen (p := ⟨w.heap.size + 1, 2, none⟩) l2).trans f2; have f3' := (hbel.frozen (p := ⟨w.heap.size + 1, 3, none⟩) l2).trans f3; have f4' := (hbel.frozen (p := ⟨w.heap.size + 1, 4, none⟩) l2).trans f4; clear hbel)
          have HF := BT.forgot Hm.out HB.out (by omega) ⟨_, by rw [World.cell?_setCell_other _ _ _ _ (by intro e; exact n1 (congrArg Addr.block e))]; exact k2'⟩
          generalize w1.alloc (.cells #[.int .i64 0] 28) = wA at *
          go_wp2_with fail
          have Hd := hideIt ((HF.out).done Hl.out true false false false 0)
          refine bodyPost_ret (v := .agg #[.bool true, .bool false, .bool false, .bool false, .int .i64 0]) ?_ rfl (by exact Hd.out.1)
          exact results_cell_row (by exact Tryz.results65) _ _ (w.heap.size + 1) _ _ _ _ (by rfl) (by exact Hd.out.2) Tryz.underlying95 rfl (by kernel_rfl)

        case grow =>
          intro hgrow v' w3 hown hg
          (obtain ⟨g, cap', X', rfl, g1, g2, hbel, HB⟩ := HT.out.appended HA.out Hm.out (by first | exact hown | (rw [Deep.nblk_alloc]; exact hown)) (by exact hg) Hs.out; have k2' := (hbel.cell (p := ⟨kb, 2, none⟩) l1).trans k2; have kz' := (hbel.frozen (p := ⟨kb, 2, none⟩) l1).trans kz; have c0' := (hbel.cell (p := ⟨w.heap.size + 1, 0, none⟩) l2).trans c0; have c1' := (hbel.cell (p := ⟨w.heap.size + 1, 1, none⟩) l2).trans c1; have c2' := (hbel.cell (p := ⟨w.heap.size + 1, 2, none⟩) l2).trans c2; have c3' := (hbel.cell (p := ⟨w.heap.size + 1, 3, none⟩) l2).trans c3; have c4' := (hbel.cell (p := ⟨w.heap.size + 1, 4, none⟩) l2).trans c4; have f0' := (hbel.frozen (p := ⟨w.heap.size + 1, 0, none⟩) l2).trans f0; have f1' := (hbel.frozen (p := ⟨w.heap.size + 1, 1, none⟩) l2).trans f1; have f2' := (hbel.frozen (p := ⟨w.heap.size + 1, 2, none⟩) l2).trans f2; have f3' := (hbel.frozen (p := ⟨w.heap.size + 1, 3, none⟩) l2).trans f3; have f4' := (hbel.frozen (p := ⟨w.heap.size + 1, 4, none⟩) l2).trans f4; clear hown hg hbel)

          have HF := BT.forgot Hm.out HB.out (by omega) ⟨_, k2'⟩
          go_wp2_with fail
          have Hd := hideIt ((HF.out).done Hl.out true false false false 0)
          refine bodyPost_ret (v := .agg #[.bool true, .bool false, .bool false, .bool false, .int .i64 0]) ?_ rfl (by exact Hd.out.1)
          exact results_cell_row (by exact Tryz.results65) _ _ (w.heap.size + 1) _ _ _ _ (by rfl) (by exact Hd.out.2) Tryz.underlying95 rfl (by kernel_rfl)

      · have Hl : Hid ((regs ++ [0]).length ≤ 8) := by
          have := Hm.out
          show _ ≤ _
          simp
          omega
        have h8' : (m : Int) + 1 ≤ 8 := by omega
        go_wp2_with (at_builtin; refine wpList_append_arg _ rfl (.tmp 251) (.tmp 253) 37 rfl 28 i0 (.int .i64 0) 1 8 Tryz.underlying37 hi0 hz0 hz1 hz2 rfl (by decide) rb off m cap (regs.map encI) rfl (by have := Hm.out; rw [List.length_map]; omega) (by exact Hag.out) ⟨w1.heap.size, 0, none⟩ 1 1 [encI 0] rfl rfl (World.news_of_block (cs := #[.int .i64 0]) (t := 28) (fr := (0, 0)) (heap_new _ _)) (one_ints [0]) (by exact Hsp.out) (by unfold maxLen; omega) (by omega) ?room ?grow)
        case room =>
          intro hroom
          rw [show ∀ (W : World) (b o : Nat) (v : Value), W.setCells b o [v] = W.setCell ⟨b, o, none⟩ v from fun _ _ _ _ => rfl]
          have HB := HT.out.roomed HA.out Hm.out k2 HR1.out hroom Hs.out
          (have hbel := HA.out; have k2' := (hbel.cell (p := ⟨kb, 2, none⟩) l1).trans k2; have kz' := (hbel.frozen (p := ⟨kb, 2, none⟩) l1).trans kz; have c0' := (hbel.cell (p := ⟨w.heap.size + 1, 0, none⟩) l2).trans c0; have c1' := (hbel.cell (p := ⟨w.heap.size + 1, 1, none⟩) l2).trans c1; have c2' := (hbel.cell (p := ⟨w.heap.size + 1, 2, none⟩) l2).trans c2; have c3' := (hbel.cell (p := ⟨w.heap.size + 1, 3, none⟩) l2).trans c3; have c4' := (hbel.cell (p := ⟨w.heap.size + 1, 4, none⟩) l2).trans c4; have f0' := (hbel.frozen (p := ⟨w.heap.size + 1, 0, none⟩) l2).trans f0; have f1' := (hbel.frozen (p := ⟨w.heap.size + 1, 1, none⟩) l2).trans f1; have f2' := (hbel.frozen (p := ⟨w.heap.size + 1, 2, none⟩) l2).trans f2; have f3' := (hbel.frozen (p := ⟨w.heap.size + 1, 3, none⟩) l2).trans f3; have f4' := (hbel.frozen (p := ⟨w.heap.size + 1, 4, none⟩) l2).trans f4; clear hbel)
          generalize w1.alloc (.cells #[.int .i64 0] 28) = wA at *
          go_wp2_with fail
          have Hd := hideIt ((HB.out).done Hl.out true false false false 0)
          refine bodyPost_ret (v := .agg #[.bool true, .bool false, .bool false, .bool false, .int .i64 0]) ?_ rfl (by exact Hd.out.1)
          exact results_cell_row (by exact Tryz.results65) _ _ (w.heap.size + 1) _ _ _ _ (by rfl) (by exact Hd.out.2) Tryz.underlying95 rfl (by kernel_rfl)

        case grow =>
          intro hgrow v' w3 hown hg
          (obtain ⟨g, cap', X', rfl, g1, g2, hbel, HB⟩ := HT.out.appended HA.out Hm.out (by first | exact hown | (rw [Deep.nblk_alloc]; exact hown)) (by exact hg) Hs.out; have k2' := (hbel.cell (p := ⟨kb, 2, none⟩) l1).trans k2; have kz' := (hbel.frozen (p := ⟨kb, 2, none⟩) l1).trans kz; have c0' := (hbel.cell (p := ⟨w.heap.size + 1, 0, none⟩) l2).trans c0; have c1' := (hbel.cell (p := ⟨w.heap.size + 1, 1, none⟩) l2).trans c1; have c2' := (hbel.cell (p := ⟨w.heap.size + 1, 2, none⟩) l2).trans c2; have c3' := (hbel.cell (p := ⟨w.heap.size + 1, 3, none⟩) l2).trans c3; have c4' := (hbel.cell (p := ⟨w.heap.size + 1, 4, none⟩) l2).trans c4; have f0' := (hbel.frozen (p := ⟨w.heap.size + 1, 0, none⟩) l2).trans f0; have f1' := (hbel.frozen (p := ⟨w.heap.size + 1, 1, none⟩) l2).trans f1; have f2' := (hbel.frozen (p := ⟨w.heap.size + 1, 2, none⟩) l2).trans f2; have f3' := (hbel.frozen (p := ⟨w.heap.size + 1, 3, none⟩) l2).trans f3; have f4' := (hbel.frozen (p := ⟨w.heap.size + 1, 4, none⟩) l2).trans f4; clear hown hg hbel)

          go_wp2_with fail
          have Hd := hideIt ((HB.out).done Hl.out true false false false 0)
          refine bodyPost_ret (v := .agg #[.bool true, .bool false, .bool false, .bool false, .int .i64 0]) ?_ rfl (by exact Hd.out.1)
          exact results_cell_row (by exact Tryz.results65) _ _ (w.heap.size + 1) _ _ _ _ (by rfl) (by exact Hd.out.2) Tryz.underlying95 rfl (by kernel_rfl)


set_option maxHeartbeats 4000000 in
theorem build1 {X : Nat → Prop} {w : World} {kb eb mb ab nb : Nat} {A : List Nd} {regs : List Int} (hM : Mc X w kb eb mb ab nb 65536 A regs) (hl : regs.length ≤ 8) {B0 : Nat} (hX : ∀ z, X z → B0 ≤ z) (hB : B0 ≤ w.heap.size) (oa ob oc o6 : Int) (wa pa : Option Addr) (wn wc pn pc : Nat) :
    Calls Tryz.prog 65 #[.pointer (some ⟨kb, 0, none⟩), .agg #[.int .i64 1, .int .i64 oa, .int .i64 ob, .int .i64 oc, .slice wa wn wc, .slice pa pn pc, .int .i64 o6]] w (BdPost X A B0 kb eb mb ab w) := by
  obtain ⟨rv, k0, k1, k2, hR⟩ := hM.cells
  have HM := hideIt hM
  have lk := hM.lk
  have hrl : ∃ ra rc, rv = .slice ra regs.length rc := by
    rcases hR with ⟨e, e2⟩ | ⟨rb, off, cap, _, e, _⟩
    · exact ⟨none, 0, by rw [e, e2]; rfl⟩
    · exact ⟨_, cap, e⟩
  obtain ⟨ra, rc, rfl⟩ := hrl
  clear hM hR
  go_enter Tryz.func65, Tryz.ntmps65
  go_wp2_with fail
  go_at_call 112
  have HT0 := hideIt (BT.start HM.out hX hB (.cells #[.int .i64 1, .int .i64 oa, .int .i64 ob, .int .i64 oc, .slice wa wn wc, .slice pa pn pc, .int .i64 o6] 31))
  have Hz : Hid (Valid A 1 ∧ sz A 1 ≤ 100) := ⟨HM.out.en.st.ar.wf.v1, by rw [sz1 HM.out.en.st.ar.wf]; omega⟩
  generalize hWW : ((w.alloc (.cells #[.int .i64 1, .int .i64 oa, .int .i64 ob, .int .i64 oc, .slice wa wn wc, .slice pa pn pc, .int .i64 o6] 31)).alloc (.cells #[.bool false, .bool false, .bool false, .bool false, .int .i64 0] 95)) = w1 at *
  have HT : Hid (BT X A w kb eb mb ab regs B0 (fun b => X b ∨ b = w.heap.size + 1) w1 nb A) := HT0.out
  generalize (fun b => X b ∨ b = w.heap.size + 1) = X1 at *
  clear HT0 hWW k0 k1 k2 HM
  refine (size_walk HT.out.mc.en.st _ 1 rfl Hz.out.1 (by have := Hz.out.2; omega)).mono ?_
  rintro e wS ⟨rfl, hwS⟩
  obtain ⟨n, hsn⟩ : ∃ n : Nat, n = sz A 1 := ⟨_, rfl⟩
  rw [← hsn]
  have hn100 : n ≤ 100 := by rw [hsn]; exact Hz.out.2
  have Hsm : Hid (n ≤ 18 → Sm A 1) := fun h => ⟨Hz.out.1, by rw [← hsn]; exact h⟩
  clear hsn
  obtain rfl := hwS.symm
  obtain ⟨q0, q1, q2, q3, q4, ⟨c0, c1, c2, c3, c4⟩, fz⟩ := HT.out.rcells
  have f0 := fz 0
  have f1 := fz 1
  have f2 := fz 2
  have f3 := fz 3
  have f4 := fz 4
  clear fz
  by_cases hs : (18 : Int) < (n : Int)
  · go_wp2_with fail
    have Hd := hideIt ((HT.out).done hl false false false false 0)
    refine bodyPost_ret (v := .agg #[.bool false, .bool false, .bool false, .bool false, .int .i64 0]) ?_ rfl (by exact Hd.out.1)
    exact results_cell_row (by exact Tryz.results65) _ _ (w.heap.size + 1) _ _ _ _ (by rfl) (by exact Hd.out.2) Tryz.underlying95 rfl (by kernel_rfl)
  · have Hs := hideIt (Hsm.out (by omega))
    obtain ⟨rv1, k0, _, k2, hR1⟩ := HT.out.mc.cells
    have kz := HT.out.kfz
    have l1 : kb < w1.heap.size := HT.out.mc.lk
    have l2 : w.heap.size + 1 < w1.heap.size := HT.out.lt
    have HA : Hid (Below w1.heap.size w1 (w1.alloc (.cells #[.int .i64 1] 28))) := alloc_below _
    obtain ⟨i0, hi0, hz0, hz1, hz2⟩ := info_parts info_id
    have HR1 := hideIt hR1
    rcases hR1 with ⟨rfl, rfl⟩ | ⟨rb, off, cap, cells, rfl, xr, ⟨n1, n2, n3, n4⟩, hh, r1, r2, r3, r4⟩
    · have Hm : Hid (0 = ([] : List Int).length) := rfl
      go_wp2_with (at_builtin; refine wpList_append_grows _ rfl (.tmp 251) (.tmp 253) 37 rfl 28 i0 (.int .i64 0) 1 8 Tryz.underlying37 hi0 hz0 hz1 hz2 rfl (by decide) none 0 0 (([] : List Int).map encI) rfl (fun _ => ⟨rfl, rfl⟩) rfl (fun b e => by cases e) ⟨w1.heap.size, 0, none⟩ 1 1 [encI 1] rfl rfl (World.news_of_block (cs := #[.int .i64 1]) (t := 28) (fr := (0, 0)) (heap_new _ _)) (one_ints [1]) (by omega) (by unfold maxLen; omega) (by omega) ?_; intro v' w3 hown hg; (obtain ⟨g, cap', X', rfl, g1, g2, hbel, HB⟩ := HT.out.appended HA.out Hm.out (by first | exact hown | (rw [Deep.nblk_alloc]; exact hown)) (by exact hg) Hs.out; have k2' := (hbel.cell (p := ⟨kb, 2, none⟩) l1).trans k2; have kz' := (hbel.frozen (p := ⟨kb, 2, none⟩) l1).trans kz; have c0' := (hbel.cell (p := ⟨w.heap.size + 1, 0, none⟩) l2).trans c0; have c1' := (hbel.cell (p := ⟨w.heap.size + 1, 1, none⟩) l2).trans c1; have c2' := (hbel.cell (p := ⟨w.heap.size + 1, 2, none⟩) l2).trans c2; have c3' := (hbel.cell (p := ⟨w.heap.size + 1, 3, none⟩) l2).trans c3; have c4' := (hbel.cell (p := ⟨w.heap.size + 1, 4, none⟩) l2).trans c4; have f0' := (hbel.frozen (p := ⟨w.heap.size + 1, 0, none⟩) l2).trans f0; have f1' := (hbel.frozen (p := ⟨w.heap.size + 1, 1, none⟩) l2).trans f1; have f2' := (hbel.frozen (p := ⟨w.heap.size + 1, 2, none⟩) l2).trans f2; have f3' := (hbel.frozen (p := ⟨w.heap.size + 1, 3, none⟩) l2).trans f3; have f4' := (hbel.frozen (p := ⟨w.heap.size + 1, 4, none⟩) l2).trans f4; clear hown hg hbel))
      have Hd := hideIt ((HB.out).done (by simp) true false false false 0)
      refine bodyPost_ret (v := .agg #[.bool true, .bool false, .bool false, .bool false, .int .i64 0]) ?_ rfl (by exact Hd.out.1)
      exact results_cell_row (by exact Tryz.results65) _ _ (w.heap.size + 1) _ _ _ _ (by rfl) (by exact Hd.out.2) Tryz.underlying95 rfl (by kernel_rfl)

    · obtain ⟨m, hm⟩ : ∃ m, m = regs.length := ⟨_, rfl⟩
      rw [← hm] at HR1 k2 hl r2
      have Hm := hideIt hm
      obtain ⟨hag, hsp⟩ := HR1.out.arg hm HA.out
      have Hag := hideIt hag
      have Hsp := hideIt hsp
      have lr := heap_lt hh
      clear hag hsp r1 r4 hh hm
      have n5 : rb ≠ w.heap.size + 1 := HT.out.sp.dr rb off _ cap k2
      by_cases h8 : m = 8
      · have Hl : Hid ((regs ++ [1]).tail.length ≤ 8) := by
          have := Hm.out
          show _ ≤ _
          simp
          omega
        subst h8
        go_wp2_with (at_builtin; refine wpList_append_arg _ rfl (.tmp 251) (.tmp 253) 37 rfl 28 i0 (.int .i64 0) 1 8 Tryz.underlying37 hi0 hz0 hz1 hz2 rfl (by decide) rb off 8 cap (regs.map encI) rfl (by have := Hm.out; rw [List.length_map]; omega) (by exact Hag.out) ⟨w1.heap.size, 0, none⟩ 1 1 [encI 1] rfl rfl (World.news_of_block (cs := #[.int .i64 1]) (t := 28) (fr := (0, 0)) (heap_new _ _)) (one_ints [1]) (by exact Hsp.out) (by unfold maxLen; omega) (by omega) ?room ?grow)
        case room =>
          intro hroom
          rw [show ∀ (W : World) (b o : Nat) (v : Value), W.setCells b o [v] = W.setCell ⟨b, o, none⟩ v from fun _ _ _ _ => rfl]
          have HB := HT.out.roomed HA.out Hm.out k2 HR1.out hroom Hs.out
          (have hbel := HA.out; have k2' := (hbel.cell (p := ⟨kb, 2, none⟩) l1).trans k2; have kz' := (hbel.frozen (p := ⟨kb, 2, none⟩) l1).trans kz; have c0' := (hbel.cell (p := ⟨w.heap.size + 1, 0, none⟩) l2).trans c0; have c1' := (hbel.cell (p := ⟨w.heap.size + 1, 1, none⟩) l2).trans c1; have c2' := (hbel.cell (p := ⟨w.heap.size + 1, 2, none⟩) l2).trans c2; have c3' := (hbel.cell (p := ⟨w.heap.size + 1, 3, none⟩) l2).trans c3; have c4' := (hbel.cell (p := ⟨w.heap.size + 1, 4, none⟩) l2).trans c4; have f0' := (hbel.frozen (p := ⟨w.heap.size + 1, 0, none⟩) l2).trans f0; have f1' := (hbel.frozen (p := ⟨w.heap.size + 1, 1, none⟩) l2).trans f1; have f2' := (hbel.frozen (p := ⟨w.heap.size + 1, 2, none⟩) l2).trans f2; have f3' := (hbel.frozen (p := ⟨w.heap.size + 1, 3, none⟩) l2).trans f3; have f4' := (hbel.frozen (p := ⟨w.heap.size + 1, 4, none⟩) l2).trans f4; clear hbel)
          have HF := BT.forgot Hm.out HB.out (by omega) ⟨_, by rw [World.cell?_setCell_other _ _ _ _ (by intro e; exact n1 (congrArg Addr.block e))]; exact k2'⟩
          generalize w1.alloc (.cells #[.int .i64 1] 28) = wA at *
          go_wp2_with fail
          have Hd := hideIt ((HF.out).done Hl.out true false false false 0)
          refine bodyPost_ret (v := .agg #[.bool true, .bool false, .bool false, .bool false, .int .i64 0]) ?_ rfl (by exact Hd.out.1)
          exact results_cell_row (by exact Tryz.results65) _ _ (w.heap.size + 1) _ _ _ _ (by rfl) (by exact Hd.out.2) Tryz.underlying95 rfl (by kernel_rfl)

        case grow =>
          intro hgrow v' w3 hown hg
          (obtain ⟨g, cap', X', rfl, g1, g2, hbel, HB⟩ := HT.out.appended HA.out Hm.out (by first | exact hown | (rw [Deep.nblk_alloc]; exact hown)) (by exact hg) Hs.out; have k2' := (hbel.cell (p := ⟨kb, 2, none⟩) l1).trans k2; have kz' := (hbel.frozen (p := ⟨kb, 2, none⟩) l1).trans kz; have c0' := (hbel.cell (p := ⟨w.heap.size + 1, 0, none⟩) l2).trans c0; have c1' := (hbel.cell (p := ⟨w.heap.size + 1, 1, none⟩) l2).trans c1; have c2' := (hbel.cell (p := ⟨w.heap.size + 1, 2, none⟩) l2).trans c2; have c3' := (hbel.cell (p := ⟨w.heap.size + 1, 3, none⟩) l2).trans c3; have c4' := (hbel.cell (p := ⟨w.heap.size + 1, 4, none⟩) l2).trans c4; have f0' := (hbel.frozen (p := ⟨w.heap.size + 1, 0, none⟩) l2).trans f0; have f1' := (hbel.frozen (p := ⟨w.heap.size + 1, 1, none⟩) l2).trans f1; have f2' := (hbel.frozen (p := ⟨w.heap.size + 1, 2, none⟩) l2).trans f2; have f3' := (hbel.frozen (p := ⟨w.heap.size + 1, 3, none⟩) l2).trans f3; have f4' := (hbel.frozen (p := ⟨w.heap.size + 1, 4, none⟩) l2).trans f4; clear hown hg hbel)

          have HF := BT.forgot Hm.out HB.out (by omega) ⟨_, k2'⟩
          go_wp2_with fail
          have Hd := hideIt ((HF.out).done Hl.out true false false false 0)
          refine bodyPost_ret (v := .agg #[.bool true, .bool false, .bool false, .bool false, .int .i64 0]) ?_ rfl (by exact Hd.out.1)
          exact results_cell_row (by exact Tryz.results65) _ _ (w.heap.size + 1) _ _ _ _ (by rfl) (by exact Hd.out.2) Tryz.underlying95 rfl (by kernel_rfl)

      · have Hl : Hid ((regs ++ [1]).length ≤ 8) := by
          have := Hm.out
          show _ ≤ _
          simp
          omega
        have h8' : (m : Int) + 1 ≤ 8 := by omega
        go_wp2_with (at_builtin; refine wpList_append_arg _ rfl (.tmp 251) (.tmp 253) 37 rfl 28 i0 (.int .i64 0) 1 8 Tryz.underlying37 hi0 hz0 hz1 hz2 rfl (by decide) rb off m cap (regs.map encI) rfl (by have := Hm.out; rw [List.length_map]; omega) (by exact Hag.out) ⟨w1.heap.size, 0, none⟩ 1 1 [encI 1] rfl rfl (World.news_of_block (cs := #[.int .i64 1]) (t := 28) (fr := (0, 0)) (heap_new _ _)) (one_ints [1]) (by exact Hsp.out) (by unfold maxLen; omega) (by omega) ?room ?grow)
        case room =>
          intro hroom
          rw [show ∀ (W : World) (b o : Nat) (v : Value), W.setCells b o [v] = W.setCell ⟨b, o, none⟩ v from fun _ _ _ _ => rfl]
          have HB := HT.out.roomed HA.out Hm.out k2 HR1.out hroom Hs.out
          (have hbel := HA.out; have k2' := (hbel.cell (p := ⟨kb, 2, none⟩) l1).trans k2; have kz' := (hbel.frozen (p := ⟨kb, 2, none⟩) l1).trans kz; have c0' := (hbel.cell (p := ⟨w.heap.size + 1, 0, none⟩) l2).trans c0; have c1' := (hbel.cell (p := ⟨w.heap.size + 1, 1, none⟩) l2).trans c1; have c2' := (hbel.cell (p := ⟨w.heap.size + 1, 2, none⟩) l2).trans c2; have c3' := (hbel.cell (p := ⟨w.heap.size + 1, 3, none⟩) l2).trans c3; have c4' := (hbel.cell (p := ⟨w.heap.size + 1, 4, none⟩) l2).trans c4; have f0' := (hbel.frozen (p := ⟨w.heap.size + 1, 0, none⟩) l2).trans f0; have f1' := (hbel.frozen (p := ⟨w.heap.size + 1, 1, none⟩) l2).trans f1; have f2' := (hbel.frozen (p := ⟨w.heap.size + 1, 2, none⟩) l2).trans f2; have f3' := (hbel.frozen (p := ⟨w.heap.size + 1, 3, none⟩) l2).trans f3; have f4' := (hbel.frozen (p := ⟨w.heap.size + 1, 4, none⟩) l2).trans f4; clear hbel)
          generalize w1.alloc (.cells #[.int .i64 1] 28) = wA at *
          go_wp2_with fail
          have Hd := hideIt ((HB.out).done Hl.out true false false false 0)
          refine bodyPost_ret (v := .agg #[.bool true, .bool false, .bool false, .bool false, .int .i64 0]) ?_ rfl (by exact Hd.out.1)
          exact results_cell_row (by exact Tryz.results65) _ _ (w.heap.size + 1) _ _ _ _ (by rfl) (by exact Hd.out.2) Tryz.underlying95 rfl (by kernel_rfl)

        case grow =>
          intro hgrow v' w3 hown hg
          (obtain ⟨g, cap', X', rfl, g1, g2, hbel, HB⟩ := HT.out.appended HA.out Hm.out (by first | exact hown | (rw [Deep.nblk_alloc]; exact hown)) (by exact hg) Hs.out; have k2' := (hbel.cell (p := ⟨kb, 2, none⟩) l1).trans k2; have kz' := (hbel.frozen (p := ⟨kb, 2, none⟩) l1).trans kz; have c0' := (hbel.cell (p := ⟨w.heap.size + 1, 0, none⟩) l2).trans c0; have c1' := (hbel.cell (p := ⟨w.heap.size + 1, 1, none⟩) l2).trans c1; have c2' := (hbel.cell (p := ⟨w.heap.size + 1, 2, none⟩) l2).trans c2; have c3' := (hbel.cell (p := ⟨w.heap.size + 1, 3, none⟩) l2).trans c3; have c4' := (hbel.cell (p := ⟨w.heap.size + 1, 4, none⟩) l2).trans c4; have f0' := (hbel.frozen (p := ⟨w.heap.size + 1, 0, none⟩) l2).trans f0; have f1' := (hbel.frozen (p := ⟨w.heap.size + 1, 1, none⟩) l2).trans f1; have f2' := (hbel.frozen (p := ⟨w.heap.size + 1, 2, none⟩) l2).trans f2; have f3' := (hbel.frozen (p := ⟨w.heap.size + 1, 3, none⟩) l2).trans f3; have f4' := (hbel.frozen (p := ⟨w.heap.size + 1, 4, none⟩) l2).trans f4; clear hown hg hbel)

          go_wp2_with fail
          have Hd := hideIt ((HB.out).done Hl.out true false false false 0)
          refine bodyPost_ret (v := .agg #[.bool true, .bool false, .bool false, .bool false, .int .i64 0]) ?_ rfl (by exact Hd.out.1)
          exact results_cell_row (by exact Tryz.results65) _ _ (w.heap.size + 1) _ _ _ _ (by rfl) (by exact Hd.out.2) Tryz.underlying95 rfl (by kernel_rfl)


set_option maxHeartbeats 4000000 in
theorem build2 {X : Nat → Prop} {w : World} {kb eb mb ab nb : Nat} {A : List Nd} {regs : List Int} (hM : Mc X w kb eb mb ab nb 65536 A regs) (hl : regs.length ≤ 8) {B0 : Nat} (hX : ∀ z, X z → B0 ≤ z) (hB : B0 ≤ w.heap.size) (oa ob oc o6 : Int) (wa pa : Option Addr) (wn wc pn pc : Nat) :
    Calls Tryz.prog 65 #[.pointer (some ⟨kb, 0, none⟩), .agg #[.int .i64 2, .int .i64 oa, .int .i64 ob, .int .i64 oc, .slice wa wn wc, .slice pa pn pc, .int .i64 o6]] w (BdPost X A B0 kb eb mb ab w) := by
  obtain ⟨rv, k0, k1, k2, hR⟩ := hM.cells
  have HM := hideIt hM
  have lk := hM.lk
  have hrl : ∃ ra rc, rv = .slice ra regs.length rc := by
    rcases hR with ⟨e, e2⟩ | ⟨rb, off, cap, _, e, _⟩
    · exact ⟨none, 0, by rw [e, e2]; rfl⟩
    · exact ⟨_, cap, e⟩
  obtain ⟨ra, rc, rfl⟩ := hrl
  clear hM hR
  go_enter Tryz.func65, Tryz.ntmps65
  go_wp2_with fail
  go_at_call 112
  have HT0 := hideIt (BT.start HM.out hX hB (.cells #[.int .i64 2, .int .i64 oa, .int .i64 ob, .int .i64 oc, .slice wa wn wc, .slice pa pn pc, .int .i64 o6] 31))
  have Hz : Hid (Valid A 2 ∧ sz A 2 ≤ 100) := ⟨HM.out.en.st.ar.wf.v2, by rw [sz2 HM.out.en.st.ar.wf]; omega⟩
  generalize hWW : ((w.alloc (.cells #[.int .i64 2, .int .i64 oa, .int .i64 ob, .int .i64 oc, .slice wa wn wc, .slice pa pn pc, .int .i64 o6] 31)).alloc (.cells #[.bool false, .bool false, .bool false, .bool false, .int .i64 0] 95)) = w1 at *
  have HT : Hid (BT X A w kb eb mb ab regs B0 (fun b => X b ∨ b = w.heap.size + 1) w1 nb A) := HT0.out
  generalize (fun b => X b ∨ b = w.heap.size + 1) = X1 at *
  clear HT0 hWW k0 k1 k2 HM
  refine (size_walk HT.out.mc.en.st _ 2 rfl Hz.out.1 (by have := Hz.out.2; omega)).mono ?_
  rintro e wS ⟨rfl, hwS⟩
  obtain ⟨n, hsn⟩ : ∃ n : Nat, n = sz A 2 := ⟨_, rfl⟩
  rw [← hsn]
  have hn100 : n ≤ 100 := by rw [hsn]; exact Hz.out.2
  have Hsm : Hid (n ≤ 18 → Sm A 2) := fun h => ⟨Hz.out.1, by rw [← hsn]; exact h⟩
  clear hsn
  obtain rfl := hwS.symm
  obtain ⟨q0, q1, q2, q3, q4, ⟨c0, c1, c2, c3, c4⟩, fz⟩ := HT.out.rcells
  have f0 := fz 0
  have f1 := fz 1
  have f2 := fz 2
  have f3 := fz 3
  have f4 := fz 4
  clear fz
  by_cases hs : (18 : Int) < (n : Int)
  · go_wp2_with fail
    have Hd := hideIt ((HT.out).done hl false false false false 0)
    refine bodyPost_ret (v := .agg #[.bool false, .bool false, .bool false, .bool false, .int .i64 0]) ?_ rfl (by exact Hd.out.1)
    exact results_cell_row (by exact Tryz.results65) _ _ (w.heap.size + 1) _ _ _ _ (by rfl) (by exact Hd.out.2) Tryz.underlying95 rfl (by kernel_rfl)
  · have Hs := hideIt (Hsm.out (by omega))
    obtain ⟨rv1, k0, _, k2, hR1⟩ := HT.out.mc.cells
    have kz := HT.out.kfz
    have l1 : kb < w1.heap.size := HT.out.mc.lk
    have l2 : w.heap.size + 1 < w1.heap.size := HT.out.lt
    have HA : Hid (Below w1.heap.size w1 (w1.alloc (.cells #[.int .i64 2] 28))) := alloc_below _
    obtain ⟨i0, hi0, hz0, hz1, hz2⟩ := info_parts info_id
    have HR1 := hideIt hR1
    rcases hR1 with ⟨rfl, rfl⟩ | ⟨rb, off, cap, cells, rfl, xr, ⟨n1, n2, n3, n4⟩, hh, r1, r2, r3, r4⟩
    · have Hm : Hid (0 = ([] : List Int).length) := rfl
      go_wp2_with (at_builtin; refine wpList_append_grows _ rfl (.tmp 251) (.tmp 253) 37 rfl 28 i0 (.int .i64 0) 1 8 Tryz.underlying37 hi0 hz0 hz1 hz2 rfl (by decide) none 0 0 (([] : List Int).map encI) rfl (fun _ => ⟨rfl, rfl⟩) rfl (fun b e => by cases e) ⟨w1.heap.size, 0, none⟩ 1 1 [encI 2] rfl rfl (World.news_of_block (cs := #[.int .i64 2]) (t := 28) (fr := (0, 0)) (heap_new _ _)) (one_ints [2]) (by omega) (by unfold maxLen; omega) (by omega) ?_; intro v' w3 hown hg; (obtain ⟨g, cap', X', rfl, g1, g2, hbel, HB⟩ := HT.out.appended HA.out Hm.out (by first | exact hown | (rw [Deep.nblk_alloc]; exact hown)) (by exact hg) Hs.out; have k2' := (hbel.cell (p := ⟨kb, 2, none⟩) l1).trans k2; have kz' := (hbel.frozen (p := ⟨kb, 2, none⟩) l1).trans kz; have c0' := (hbel.cell (p := ⟨w.heap.size + 1, 0, none⟩) l2).trans c0; have c1' := (hbel.cell (p := ⟨w.heap.size + 1, 1, none⟩) l2).trans c1; have c2' := (hbel.cell (p := ⟨w.heap.size + 1, 2, none⟩) l2).trans c2; have c3' := (hbel.cell (p := ⟨w.heap.size + 1, 3, none⟩) l2).trans c3; have c4' := (hbel.cell (p := ⟨w.heap.size + 1, 4, none⟩) l2).trans c4; have f0' := (hbel.frozen (p := ⟨w.heap.size + 1, 0, none⟩) l2).trans f0; have f1' := (hbel.frozen (p := ⟨w.heap.size + 1, 1, none⟩) l2).trans f1; have f2' := (hbel.frozen (p := ⟨w.heap.size + 1, 2, none⟩) l2).trans f2; have f3' := (hbel.frozen (p := ⟨w.heap.size + 1, 3, none⟩) l2).trans f3; have f4' := (hbel.frozen (p := ⟨w.heap.size + 1, 4, none⟩) l2).trans f4; clear hown hg hbel))
      have Hd := hideIt ((HB.out).done (by simp) true false false false 0)
      refine bodyPost_ret (v := .agg #[.bool true, .bool false, .bool false, .bool false, .int .i64 0]) ?_ rfl (by exact Hd.out.1)
      exact results_cell_row (by exact Tryz.results65) _ _ (w.heap.size + 1) _ _ _ _ (by rfl) (by exact Hd.out.2) Tryz.underlying95 rfl (by kernel_rfl)

    · obtain ⟨m, hm⟩ : ∃ m, m = regs.length := ⟨_, rfl⟩
      rw [← hm] at HR1 k2 hl r2
      have Hm := hideIt hm
      obtain ⟨hag, hsp⟩ := HR1.out.arg hm HA.out
      have Hag := hideIt hag
      have Hsp := hideIt hsp
      have lr := heap_lt hh
      clear hag hsp r1 r4 hh hm
      have n5 : rb ≠ w.heap.size + 1 := HT.out.sp.dr rb off _ cap k2
      by_cases h8 : m = 8
      · have Hl : Hid ((regs ++ [2]).tail.length ≤ 8) := by
          have := Hm.out
          show _ ≤ _
          simp
          omega
        subst h8
        go_wp2_with (at_builtin; refine wpList_append_arg _ rfl (.tmp 251) (.tmp 253) 37 rfl 28 i0 (.int .i64 0) 1 8 Tryz.underlying37 hi0 hz0 hz1 hz2 rfl (by decide) rb off 8 cap (regs.map encI) rfl (by have := Hm.out; rw [List.length_map]; omega) (by exact Hag.out) ⟨w1.heap.size, 0, none⟩ 1 1 [encI 2] rfl rfl (World.news_of_block (cs := #[.int .i64 2]) (t := 28) (fr := (0, 0)) (heap_new _ _)) (one_ints [2]) (by exact Hsp.out) (by unfold maxLen; omega) (by omega) ?room ?grow)
        case room =>
          intro hroom
          rw [show ∀ (W : World) (b o : Nat) (v : Value), W.setCells b o [v] = W.setCell ⟨b, o, none⟩ v from fun _ _ _ _ => rfl]
          have HB := HT.out.roomed HA.out Hm.out k2 HR1.out hroom Hs.out
          (have hbel := HA.out; have k2' := (hbel.cell (p := ⟨kb, 2, none⟩) l1).trans k2; have kz' := (hbel.frozen (p := ⟨kb, 2, none⟩) l1).trans kz; have c0' := (hbel.cell (p := ⟨w.heap.size + 1, 0, none⟩) l2).trans c0; have c1' := (hbel.cell (p := ⟨w.heap.size + 1, 1, none⟩) l2).trans c1; have c2' := (hbel.cell (p := ⟨w.heap.size + 1, 2, none⟩) l2).trans c2; have c3' := (hbel.cell (p := ⟨w.heap.size + 1, 3, none⟩) l2).trans c3; have c4' := (hbel.cell (p := ⟨w.heap.size + 1, 4, none⟩) l2).trans c4; have f0' := (hbel.frozen (p := ⟨w.heap.size + 1, 0, none⟩) l2).trans f0; have f1' := (hbel.frozen (p := ⟨w.heap.size + 1, 1, none⟩) l2).trans f1; have f2' := (hbel.frozen (p := ⟨w.heap.size + 1, 2, none⟩) l2).trans f2; have f3' := (hbel.frozen (p := ⟨w.heap.size + 1, 3, none⟩) l2).trans f3; have f4' := (hbel.frozen (p := ⟨w.heap.size + 1, 4, none⟩) l2).trans f4; clear hbel)
          have HF := BT.forgot Hm.out HB.out (by omega) ⟨_, by rw [World.cell?_setCell_other _ _ _ _ (by intro e; exact n1 (congrArg Addr.block e))]; exact k2'⟩
          generalize w1.alloc (.cells #[.int .i64 2] 28) = wA at *
          go_wp2_with fail
          have Hd := hideIt ((HF.out).done Hl.out true false false false 0)
          refine bodyPost_ret (v := .agg #[.bool true, .bool false, .bool false, .bool false, .int .i64 0]) ?_ rfl (by exact Hd.out.1)
          exact results_cell_row (by exact Tryz.results65) _ _ (w.heap.size + 1) _ _ _ _ (by rfl) (by exact Hd.out.2) Tryz.underlying95 rfl (by kernel_rfl)

        case grow =>
          intro hgrow v' w3 hown hg
          (obtain ⟨g, cap', X', rfl, g1, g2, hbel, HB⟩ := HT.out.appended HA.out Hm.out (by first | exact hown | (rw [Deep.nblk_alloc]; exact hown)) (by exact hg) Hs.out; have k2' := (hbel.cell (p := ⟨kb, 2, none⟩) l1).trans k2; have kz' := (hbel.frozen (p := ⟨kb, 2, none⟩) l1).trans kz; have c0' := (hbel.cell (p := ⟨w.heap.size + 1, 0, none⟩) l2).trans c0; have c1' := (hbel.cell (p := ⟨w.heap.size + 1, 1, none⟩) l2).trans c1; have c2' := (hbel.cell (p := ⟨w.heap.size + 1, 2, none⟩) l2).trans c2; have c3' := (hbel.cell (p := ⟨w.heap.size + 1, 3, none⟩) l2).trans c3; have c4' := (hbel.cell (p := ⟨w.heap.size + 1, 4, none⟩) l2).trans c4; have f0' := (hbel.frozen (p := ⟨w.heap.size + 1, 0, none⟩) l2).trans f0; have f1' := (hbel.frozen (p := ⟨w.heap.size + 1, 1, none⟩) l2).trans f1; have f2' := (hbel.frozen (p := ⟨w.heap.size + 1, 2, none⟩) l2).trans f2; have f3' := (hbel.frozen (p := ⟨w.heap.size + 1, 3, none⟩) l2).trans f3; have f4' := (hbel.frozen (p := ⟨w.heap.size + 1, 4, none⟩) l2).trans f4; clear hown hg hbel)

          have HF := BT.forgot Hm.out HB.out (by omega) ⟨_, k2'⟩
          go_wp2_with fail
          have Hd := hideIt ((HF.out).done Hl.out true false false false 0)
          refine bodyPost_ret (v := .agg #[.bool true, .bool false, .bool false, .bool false, .int .i64 0]) ?_ rfl (by exact Hd.out.1)
          exact results_cell_row (by exact Tryz.results65) _ _ (w.heap.size + 1) _ _ _ _ (by rfl) (by exact Hd.out.2) Tryz.underlying95 rfl (by kernel_rfl)

      · have Hl : Hid ((regs ++ [2]).length ≤ 8) := by
          have := Hm.out
          show _ ≤ _
          simp
          omega
        have h8' : (m : Int) + 1 ≤ 8 := by omega
        go_wp2_with (at_builtin; refine wpList_append_arg _ rfl (.tmp 251) (.tmp 253) 37 rfl 28 i0 (.int .i64 0) 1 8 Tryz.underlying37 hi0 hz0 hz1 hz2 rfl (by decide) rb off m cap (regs.map encI) rfl (by have := Hm.out; rw [List.length_map]; omega) (by exact Hag.out) ⟨w1.heap.size, 0, none⟩ 1 1 [encI 2] rfl rfl (World.news_of_block (cs := #[.int .i64 2]) (t := 28) (fr := (0, 0)) (heap_new _ _)) (one_ints [2]) (by exact Hsp.out) (by unfold maxLen; omega) (by omega) ?room ?grow)
        case room =>
          intro hroom
          rw [show ∀ (W : World) (b o : Nat) (v : Value), W.setCells b o [v] = W.setCell ⟨b, o, none⟩ v from fun _ _ _ _ => rfl]
          have HB := HT.out.roomed HA.out Hm.out k2 HR1.out hroom Hs.out
          (have hbel := HA.out; have k2' := (hbel.cell (p := ⟨kb, 2, none⟩) l1).trans k2; have kz' := (hbel.frozen (p := ⟨kb, 2, none⟩) l1).trans kz; have c0' := (hbel.cell (p := ⟨w.heap.size + 1, 0, none⟩) l2).trans c0; have c1' := (hbel.cell (p := ⟨w.heap.size + 1, 1, none⟩) l2).trans c1; have c2' := (hbel.cell (p := ⟨w.heap.size + 1, 2, none⟩) l2).trans c2; have c3' := (hbel.cell (p := ⟨w.heap.size + 1, 3, none⟩) l2).trans c3; have c4' := (hbel.cell (p := ⟨w.heap.size + 1, 4, none⟩) l2).trans c4; have f0' := (hbel.frozen (p := ⟨w.heap.size + 1, 0, none⟩) l2).trans f0; have f1' := (hbel.frozen (p := ⟨w.heap.size + 1, 1, none⟩) l2).trans f1; have f2' := (hbel.frozen (p := ⟨w.heap.size + 1, 2, none⟩) l2).trans f2; have f3' := (hbel.frozen (p := ⟨w.heap.size + 1, 3, none⟩) l2).trans f3; have f4' := (hbel.frozen (p := ⟨w.heap.size + 1, 4, none⟩) l2).trans f4; clear hbel)
          generalize w1.alloc (.cells #[.int .i64 2] 28) = wA at *
          go_wp2_with fail
          have Hd := hideIt ((HB.out).done Hl.out true false false false 0)
          refine bodyPost_ret (v := .agg #[.bool true, .bool false, .bool false, .bool false, .int .i64 0]) ?_ rfl (by exact Hd.out.1)
          exact results_cell_row (by exact Tryz.results65) _ _ (w.heap.size + 1) _ _ _ _ (by rfl) (by exact Hd.out.2) Tryz.underlying95 rfl (by kernel_rfl)

        case grow =>
          intro hgrow v' w3 hown hg
          (obtain ⟨g, cap', X', rfl, g1, g2, hbel, HB⟩ := HT.out.appended HA.out Hm.out (by first | exact hown | (rw [Deep.nblk_alloc]; exact hown)) (by exact hg) Hs.out; have k2' := (hbel.cell (p := ⟨kb, 2, none⟩) l1).trans k2; have kz' := (hbel.frozen (p := ⟨kb, 2, none⟩) l1).trans kz; have c0' := (hbel.cell (p := ⟨w.heap.size + 1, 0, none⟩) l2).trans c0; have c1' := (hbel.cell (p := ⟨w.heap.size + 1, 1, none⟩) l2).trans c1; have c2' := (hbel.cell (p := ⟨w.heap.size + 1, 2, none⟩) l2).trans c2; have c3' := (hbel.cell (p := ⟨w.heap.size + 1, 3, none⟩) l2).trans c3; have c4' := (hbel.cell (p := ⟨w.heap.size + 1, 4, none⟩) l2).trans c4; have f0' := (hbel.frozen (p := ⟨w.heap.size + 1, 0, none⟩) l2).trans f0; have f1' := (hbel.frozen (p := ⟨w.heap.size + 1, 1, none⟩) l2).trans f1; have f2' := (hbel.frozen (p := ⟨w.heap.size + 1, 2, none⟩) l2).trans f2; have f3' := (hbel.frozen (p := ⟨w.heap.size + 1, 3, none⟩) l2).trans f3; have f4' := (hbel.frozen (p := ⟨w.heap.size + 1, 4, none⟩) l2).trans f4; clear hown hg hbel)

          go_wp2_with fail
          have Hd := hideIt ((HB.out).done Hl.out true false false false 0)
          refine bodyPost_ret (v := .agg #[.bool true, .bool false, .bool false, .bool false, .int .i64 0]) ?_ rfl (by exact Hd.out.1)
          exact results_cell_row (by exact Tryz.results65) _ _ (w.heap.size + 1) _ _ _ _ (by rfl) (by exact Hd.out.2) Tryz.underlying95 rfl (by kernel_rfl)

end Go.Proofs.Qxb6500848aGreatDoor
