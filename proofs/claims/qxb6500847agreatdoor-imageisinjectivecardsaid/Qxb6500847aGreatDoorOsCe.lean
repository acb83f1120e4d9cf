/-
  Clear.
-/
import Derived.Test.Qxb6500847aGreatDoorOsRd0
import Derived.Test.Qxb6500847aGreatDoorOxB
import Derived.Test.Qxb6500847aGreatDoorOsRd1
import Derived.Test.Qxb6500847aGreatDoorOsRd2
import Derived.Test.Qxb6500847aGreatDoorOsRd3
import Derived.Test.Qxb6500847aGreatDoorOsRd4
import Derived.Test.Qxb6500847aGreatDoorOsRd5
namespace Go.Proofs.Qxb6500847aGreatDoor.Os
open Go.RowKit FloorA
set_option maxRecDepth 100000
section
variable {A : Nat} {rb sb : Nat → Nat} {s : Av} {tl : Nat → List Int} {ws : Nat → Nat → Nat → Int} {w : World} {L : Nat → List Nat} {n : Nat}
set_option maxHeartbeats 16000000 in
theorem Clear_walk (h : Ms w A rb sb s tl ws) (hI : IV s tl L n) (hW : Wr ws) (i : Nat) (g : Int) :
    Calls Tryz.prog 65 #[.pointer (some ⟨A, 0, none⟩), .agg #[.int .u16 (i : Int), .int .u32 g]] w (MrPost A rb sb s tl ws (clrX (ob s ws) i g) w) := by
  have bB := alloc_below (w := w) (.cells #[.int .u16 (i : Int), .int .u32 g] 32)
  have hz : (w.alloc (.cells #[.int .u16 (i : Int), .int .u32 g] 32)).heap[w.heap.size]? = some (.cells #[.int .u16 (i : Int), .int .u32 g] 32 (0, 0)) := heap_new _ _
  have HM := hideIt (h.below bB)
  have HB := hideIt bB
  have HI := hideIt hI
  have HW : Hid (Wr ws) := hW
  have HZ := hideIt hz
  clear h hI bB hW hz
  go_enter Tryz.func65, Tryz.ntmps65
  go_wp2_with fail
  generalize w.alloc (.cells #[.int .u16 (i : Int), .int .u32 g] 32) = w0 at *
  go_at_call 98
  refine (resolve_walk HM.out.am i g _).mono ?_
  rintro e w1 ⟨hb1, hh⟩
  have HB1 := hideIt (Below.thr HB.out hb1)
  have HM1 := hideIt (HM.out.below hb1)
  have hz1 := (hb1.block w.heap.size (heap_lt HZ.out)).trans HZ.out
  clear hb1 hz1
  rcases hh with ⟨hl, rfl⟩ | ⟨hl, v0, rfl, hv0⟩
  · have HL := hideIt hl
    have hi := hl.1
    have htc := HM1.out.am.typ hl.1
    have erw := HM1.out.am.rw hl.1
    obtain ⟨k, ek, k7, kk⟩ := HI.out.ge.typ i hl.1
    clear kk
    have k0 : k ≠ 0 := fun e => hl.2.2.1 (by rw [ek, e]; rfl)
    have HEK := hideIt ek
    rw [ek] at htc
    clear hl ek
    by_cases k1 : k = 1
    · subst k1
      clear k0 k7
      change w1.cell? ⟨A, i * 8 + 1, none⟩ = some (.int .u8 1) at htc
      have HF : Hid (MrPost A rb sb s tl ws (clrX (ob s ws) i g) w (.returned .nilIface) w1) := suc_none HB1.out HM1.out HW.out (clrX_reg HL.out HEK.out)
      go_wp2_with fail
      exact bodyPost_ret (by simp [results, Tryz.results65]) rfl HF.out
    · obtain ⟨r, er, r1, rn⟩ := HI.out.tb.row i k hi (by omega) k7 HEK.out
      clear rn
      have HER : Hid ((s.hd i).row = (r : Int)) := er
      rw [er] at erw
      have hk : k = 2 ∨ k = 3 ∨ k = 4 ∨ k = 5 ∨ k = 6 ∨ k = 7 := by omega
      clear k0 k1 k7
      rcases hk with rfl | rfl | rfl | rfl | rfl | rfl
      · change w1.cell? ⟨A, i * 8 + 1, none⟩ = some (.int .u8 2) at htc
        change r < nR 0 at r1
        have hM2 := HM1.out.below (below_d w1)
        have HAt := hideIt (at_walk0 hM2 r1)
        have hth : w1.drew.there (rb 0) (r * nC 0) (nC 0) := fun j hj => ⟨(hM2.row 0 (by omega) r r1).isSome j (by rw [rowL_len]; exact hj), hM2.rfz 0 (by omega) _⟩
        have hsame := World.rangeAt_setCells_same w1.drew (rb 0) (r * nC 0) (rowL 0 (fun _ => 0)) (by rw [rowL_len]; exact hth)
        have hmany := St1.many w1.drew (rb 0) (r * nC 0) (rowL 0 (fun _ => 0))
        rw [rowL_len] at hmany
        have HF : Hid (MrPost A rb sb s tl ws (clrX (ob s ws) i g) w (.returned .nilIface) (w1.drew.setCells (rb 0) (r * nC 0) (rowL 0 (fun _ => 0)))) := row_suc (Below.thr HB1.out (below_d _)) hM2 HI.out HW.out HL.out.1 (by omega) HEK.out HER.out r1 hmany hsame (Wq.zero _) (clrX_ok HL.out HEK.out HER.out)
        have HTh := hideIt (show w1.drew.there (rb 0) (r * nC 0) (rowL 0 (fun _ => 0)).length from by rw [rowL_len]; exact hth)
        have HS0 := hideIt (row_sz (t := 0) (by omega) (fun _ => 0))
        have H1 := hideIt (row_one 0 (fun _ => 0))
        have hne := (HM1.out.ar 0 (by omega)).1
        clear hM2 hth hsame hmany
        go_wp2_with fail
        refine wp_region_held_drew (S := (fun w' => w'.cell? ⟨A, i * 8 + 2, none⟩ = some (.int .u16 (r : Int)))) (by kernel_rfl) erw (fun hHeld => ?_)
        refine anyH_do (i := 0) (d := some 22) (v := (.pointer (some ⟨A, 0, none⟩))) rfl (by kernel_rfl) (by kernel_rfl) (by kernel_rfl) (fun _ _ _ h => h) (by intro w hw; go_simp) hHeld ?_
        simp only [Act.put, List.setIfInBounds_toArray, List.set_cons_zero, List.set_cons_succ]
        refine anyH_do (i := 1) (d := some 23) (v := (.pointer (some ⟨A, 0, none⟩))) rfl (by kernel_rfl) (by kernel_rfl) (by kernel_rfl) (fun _ _ _ h => h) (by intro w hw; go_simp) hHeld ?_
        simp only [Act.put, List.setIfInBounds_toArray, List.set_cons_zero, List.set_cons_succ]
        refine anyH_do (i := 2) (d := some 24) (v := (.pointer (some ⟨A, 2886, none⟩))) rfl (by kernel_rfl) (by kernel_rfl) (by kernel_rfl) (fun _ _ _ h => h) (by intro w hw; go_simp) hHeld ?_
        simp only [Act.put, List.setIfInBounds_toArray, List.set_cons_zero, List.set_cons_succ]
        refine anyH_do (i := 3) (d := some 25) (v := (.pointer (some ⟨A, i * 8, none⟩))) rfl (by kernel_rfl) (by kernel_rfl) (by kernel_rfl) (fun _ _ _ h => h) (by intro w hw; go_simp) hHeld ?_
        simp only [Act.put, List.setIfInBounds_toArray, List.set_cons_zero, List.set_cons_succ]
        refine anyH_do (i := 4) (d := some 26) (v := (.pointer (some ⟨A, i * 8, none⟩))) rfl (by kernel_rfl) (by kernel_rfl) (by kernel_rfl) (fun _ _ _ h => h) (by intro w hw; go_simp) hHeld ?_
        simp only [Act.put, List.setIfInBounds_toArray, List.set_cons_zero, List.set_cons_succ]
        refine anyH_do (i := 5) (d := some 27) (v := (.pointer (some ⟨A, i * 8 + 2, none⟩))) rfl (by kernel_rfl) (by kernel_rfl) (by kernel_rfl) (fun _ _ _ h => h) (by intro w hw; go_simp) hHeld ?_
        simp only [Act.put, List.setIfInBounds_toArray, List.set_cons_zero, List.set_cons_succ]
        refine anyH_do (i := 6) (d := some 28) (v := (.int .u16 (r : Int))) rfl (by kernel_rfl) (by kernel_rfl) (by kernel_rfl) (fun _ _ _ h => h) (by intro w hw; go_simp) hHeld ?_
        simp only [Act.put, List.setIfInBounds_toArray, List.set_cons_zero, List.set_cons_succ]
        refine anyH_do (i := 8) (d := some 30) (v := (.agg (rowL 0 (fun _ => 0)).toArray)) rfl (by kernel_rfl) (by kernel_rfl) (by kernel_rfl) (fun _ _ _ h => h) (by intro w hw; go_simp; all_goals first | exact zeT_row (t := 0) (by omega) | exact rfl) hHeld ?_
        simp only [Act.put, List.setIfInBounds_toArray, List.set_cons_zero, List.set_cons_succ]
        refine anyH_call (i := 7) (d := some 29) (f := 110) (args := #[.pointer (some ⟨A, 2886, none⟩), .int .u16 (r : Int)]) rfl (by kernel_rfl) (by go_simp) ?_
        refine HAt.out.mono ?_
        rintro e w2 ⟨rfl, hw2⟩
        subst hw2
        refine ⟨_, rfl, hHeld, ?_⟩
        simp only [Act.put, List.setIfInBounds_toArray, List.set_cons_zero, List.set_cons_succ]
        refine anyH_do (i := 9) (d := some 31) (v := (.pointer (some ⟨rb 0, r * nC 0, none⟩))) rfl (by kernel_rfl) (by kernel_rfl) (by kernel_rfl) (fun _ _ _ h => h) (by intro w hw; go_simp) hHeld ?_
        simp only [Act.put, List.setIfInBounds_toArray, List.set_cons_zero, List.set_cons_succ]
        refine anyH_store (i := 10) (cs := rowL 0 (fun _ => 0)) rfl rfl rfl (by kernel_rfl) (by kernel_rfl) HTh.out HS0.out H1.out ?_ ?_
        · exact (World.cell?_setCells_out _ _ _ _ _ (fun q _ => absurd q hne.symm)).trans hHeld
        · go_wp2_with fail
          exact bodyPost_ret (by simp [results, Tryz.results65]) rfl HF.out
      · change w1.cell? ⟨A, i * 8 + 1, none⟩ = some (.int .u8 3) at htc
        change r < nR 1 at r1
        have hM2 := HM1.out.below (below_d w1)
        have HAt := hideIt (at_walk1 hM2 r1)
        have hth : w1.drew.there (rb 1) (r * nC 1) (nC 1) := fun j hj => ⟨(hM2.row 1 (by omega) r r1).isSome j (by rw [rowL_len]; exact hj), hM2.rfz 1 (by omega) _⟩
        have hsame := World.rangeAt_setCells_same w1.drew (rb 1) (r * nC 1) (rowL 1 (fun _ => 0)) (by rw [rowL_len]; exact hth)
        have hmany := St1.many w1.drew (rb 1) (r * nC 1) (rowL 1 (fun _ => 0))
        rw [rowL_len] at hmany
        have HF : Hid (MrPost A rb sb s tl ws (clrX (ob s ws) i g) w (.returned .nilIface) (w1.drew.setCells (rb 1) (r * nC 1) (rowL 1 (fun _ => 0)))) := row_suc (Below.thr HB1.out (below_d _)) hM2 HI.out HW.out HL.out.1 (by omega) HEK.out HER.out r1 hmany hsame (Wq.zero _) (clrX_ok HL.out HEK.out HER.out)
        have HTh := hideIt (show w1.drew.there (rb 1) (r * nC 1) (rowL 1 (fun _ => 0)).length from by rw [rowL_len]; exact hth)
        have HS0 := hideIt (row_sz (t := 1) (by omega) (fun _ => 0))
        have H1 := hideIt (row_one 1 (fun _ => 0))
        have hne := (HM1.out.ar 1 (by omega)).1
        clear hM2 hth hsame hmany
        go_wp2_with fail
        refine wp_region_held_drew (S := (fun w' => w'.cell? ⟨A, i * 8 + 2, none⟩ = some (.int .u16 (r : Int)))) (by kernel_rfl) erw (fun hHeld => ?_)
        refine anyH_do (i := 0) (d := some 34) (v := (.pointer (some ⟨A, 0, none⟩))) rfl (by kernel_rfl) (by kernel_rfl) (by kernel_rfl) (fun _ _ _ h => h) (by intro w hw; go_simp) hHeld ?_
        simp only [Act.put, List.setIfInBounds_toArray, List.set_cons_zero, List.set_cons_succ]
        refine anyH_do (i := 1) (d := some 35) (v := (.pointer (some ⟨A, 0, none⟩))) rfl (by kernel_rfl) (by kernel_rfl) (by kernel_rfl) (fun _ _ _ h => h) (by intro w hw; go_simp) hHeld ?_
        simp only [Act.put, List.setIfInBounds_toArray, List.set_cons_zero, List.set_cons_succ]
        refine anyH_do (i := 2) (d := some 36) (v := (.pointer (some ⟨A, 2888, none⟩))) rfl (by kernel_rfl) (by kernel_rfl) (by kernel_rfl) (fun _ _ _ h => h) (by intro w hw; go_simp) hHeld ?_
        simp only [Act.put, List.setIfInBounds_toArray, List.set_cons_zero, List.set_cons_succ]
        refine anyH_do (i := 3) (d := some 37) (v := (.pointer (some ⟨A, i * 8, none⟩))) rfl (by kernel_rfl) (by kernel_rfl) (by kernel_rfl) (fun _ _ _ h => h) (by intro w hw; go_simp) hHeld ?_
        simp only [Act.put, List.setIfInBounds_toArray, List.set_cons_zero, List.set_cons_succ]
        refine anyH_do (i := 4) (d := some 38) (v := (.pointer (some ⟨A, i * 8, none⟩))) rfl (by kernel_rfl) (by kernel_rfl) (by kernel_rfl) (fun _ _ _ h => h) (by intro w hw; go_simp) hHeld ?_
        simp only [Act.put, List.setIfInBounds_toArray, List.set_cons_zero, List.set_cons_succ]
        refine anyH_do (i := 5) (d := some 39) (v := (.pointer (some ⟨A, i * 8 + 2, none⟩))) rfl (by kernel_rfl) (by kernel_rfl) (by kernel_rfl) (fun _ _ _ h => h) (by intro w hw; go_simp) hHeld ?_
        simp only [Act.put, List.setIfInBounds_toArray, List.set_cons_zero, List.set_cons_succ]
        refine anyH_do (i := 6) (d := some 40) (v := (.int .u16 (r : Int))) rfl (by kernel_rfl) (by kernel_rfl) (by kernel_rfl) (fun _ _ _ h => h) (by intro w hw; go_simp) hHeld ?_
        simp only [Act.put, List.setIfInBounds_toArray, List.set_cons_zero, List.set_cons_succ]
        refine anyH_do (i := 8) (d := some 42) (v := (.agg (rowL 1 (fun _ => 0)).toArray)) rfl (by kernel_rfl) (by kernel_rfl) (by kernel_rfl) (fun _ _ _ h => h) (by intro w hw; go_simp; all_goals first | exact zeT_row (t := 1) (by omega) | exact rfl) hHeld ?_
        simp only [Act.put, List.setIfInBounds_toArray, List.set_cons_zero, List.set_cons_succ]
        refine anyH_call (i := 7) (d := some 41) (f := 111) (args := #[.pointer (some ⟨A, 2888, none⟩), .int .u16 (r : Int)]) rfl (by kernel_rfl) (by go_simp) ?_
        refine HAt.out.mono ?_
        rintro e w2 ⟨rfl, hw2⟩
        subst hw2
        refine ⟨_, rfl, hHeld, ?_⟩
        simp only [Act.put, List.setIfInBounds_toArray, List.set_cons_zero, List.set_cons_succ]
        refine anyH_do (i := 9) (d := some 43) (v := (.pointer (some ⟨rb 1, r * nC 1, none⟩))) rfl (by kernel_rfl) (by kernel_rfl) (by kernel_rfl) (fun _ _ _ h => h) (by intro w hw; go_simp) hHeld ?_
        simp only [Act.put, List.setIfInBounds_toArray, List.set_cons_zero, List.set_cons_succ]
        refine anyH_store (i := 10) (cs := rowL 1 (fun _ => 0)) rfl rfl rfl (by kernel_rfl) (by kernel_rfl) HTh.out HS0.out H1.out ?_ ?_
        · exact (World.cell?_setCells_out _ _ _ _ _ (fun q _ => absurd q hne.symm)).trans hHeld
        · go_wp2_with fail
          exact bodyPost_ret (by simp [results, Tryz.results65]) rfl HF.out
      · change w1.cell? ⟨A, i * 8 + 1, none⟩ = some (.int .u8 4) at htc
        change r < nR 2 at r1
        have hM2 := HM1.out.below (below_d w1)
        have HAt := hideIt (at_walk2 hM2 r1)
        have hth : w1.drew.there (rb 2) (r * nC 2) (nC 2) := fun j hj => ⟨(hM2.row 2 (by omega) r r1).isSome j (by rw [rowL_len]; exact hj), hM2.rfz 2 (by omega) _⟩
        have hsame := World.rangeAt_setCells_same w1.drew (rb 2) (r * nC 2) (rowL 2 (fun _ => 0)) (by rw [rowL_len]; exact hth)
        have hmany := St1.many w1.drew (rb 2) (r * nC 2) (rowL 2 (fun _ => 0))
        rw [rowL_len] at hmany
        have HF : Hid (MrPost A rb sb s tl ws (clrX (ob s ws) i g) w (.returned .nilIface) (w1.drew.setCells (rb 2) (r * nC 2) (rowL 2 (fun _ => 0)))) := row_suc (Below.thr HB1.out (below_d _)) hM2 HI.out HW.out HL.out.1 (by omega) HEK.out HER.out r1 hmany hsame (Wq.zero _) (clrX_ok HL.out HEK.out HER.out)
        have HTh := hideIt (show w1.drew.there (rb 2) (r * nC 2) (rowL 2 (fun _ => 0)).length from by rw [rowL_len]; exact hth)
        have HS0 := hideIt (row_sz (t := 2) (by omega) (fun _ => 0))
        have H1 := hideIt (row_one 2 (fun _ => 0))
        have hne := (HM1.out.ar 2 (by omega)).1
        clear hM2 hth hsame hmany
        go_wp2_with fail
        refine wp_region_held_drew (S := (fun w' => w'.cell? ⟨A, i * 8 + 2, none⟩ = some (.int .u16 (r : Int)))) (by kernel_rfl) erw (fun hHeld => ?_)
        refine anyH_do (i := 0) (d := some 46) (v := (.pointer (some ⟨A, 0, none⟩))) rfl (by kernel_rfl) (by kernel_rfl) (by kernel_rfl) (fun _ _ _ h => h) (by intro w hw; go_simp) hHeld ?_
        simp only [Act.put, List.setIfInBounds_toArray, List.set_cons_zero, List.set_cons_succ]
        refine anyH_do (i := 1) (d := some 47) (v := (.pointer (some ⟨A, 0, none⟩))) rfl (by kernel_rfl) (by kernel_rfl) (by kernel_rfl) (fun _ _ _ h => h) (by intro w hw; go_simp) hHeld ?_
        simp only [Act.put, List.setIfInBounds_toArray, List.set_cons_zero, List.set_cons_succ]
        refine anyH_do (i := 2) (d := some 48) (v := (.pointer (some ⟨A, 2890, none⟩))) rfl (by kernel_rfl) (by kernel_rfl) (by kernel_rfl) (fun _ _ _ h => h) (by intro w hw; go_simp) hHeld ?_
        simp only [Act.put, List.setIfInBounds_toArray, List.set_cons_zero, List.set_cons_succ]
        refine anyH_do (i := 3) (d := some 49) (v := (.pointer (some ⟨A, i * 8, none⟩))) rfl (by kernel_rfl) (by kernel_rfl) (by kernel_rfl) (fun _ _ _ h => h) (by intro w hw; go_simp) hHeld ?_
        simp only [Act.put, List.setIfInBounds_toArray, List.set_cons_zero, List.set_cons_succ]
        refine anyH_do (i := 4) (d := some 50) (v := (.pointer (some ⟨A, i * 8, none⟩))) rfl (by kernel_rfl) (by kernel_rfl) (by kernel_rfl) (fun _ _ _ h => h) (by intro w hw; go_simp) hHeld ?_
        simp only [Act.put, List.setIfInBounds_toArray, List.set_cons_zero, List.set_cons_succ]
        refine anyH_do (i := 5) (d := some 51) (v := (.pointer (some ⟨A, i * 8 + 2, none⟩))) rfl (by kernel_rfl) (by kernel_rfl) (by kernel_rfl) (fun _ _ _ h => h) (by intro w hw; go_simp) hHeld ?_
        simp only [Act.put, List.setIfInBounds_toArray, List.set_cons_zero, List.set_cons_succ]
        refine anyH_do (i := 6) (d := some 52) (v := (.int .u16 (r : Int))) rfl (by kernel_rfl) (by kernel_rfl) (by kernel_rfl) (fun _ _ _ h => h) (by intro w hw; go_simp) hHeld ?_
        simp only [Act.put, List.setIfInBounds_toArray, List.set_cons_zero, List.set_cons_succ]
        refine anyH_do (i := 8) (d := some 54) (v := (.agg (rowL 2 (fun _ => 0)).toArray)) rfl (by kernel_rfl) (by kernel_rfl) (by kernel_rfl) (fun _ _ _ h => h) (by intro w hw; go_simp; all_goals first | exact zeT_row (t := 2) (by omega) | exact rfl) hHeld ?_
        simp only [Act.put, List.setIfInBounds_toArray, List.set_cons_zero, List.set_cons_succ]
        refine anyH_call (i := 7) (d := some 53) (f := 112) (args := #[.pointer (some ⟨A, 2890, none⟩), .int .u16 (r : Int)]) rfl (by kernel_rfl) (by go_simp) ?_
        refine HAt.out.mono ?_
        rintro e w2 ⟨rfl, hw2⟩
        subst hw2
        refine ⟨_, rfl, hHeld, ?_⟩
        simp only [Act.put, List.setIfInBounds_toArray, List.set_cons_zero, List.set_cons_succ]
        refine anyH_do (i := 9) (d := some 55) (v := (.pointer (some ⟨rb 2, r * nC 2, none⟩))) rfl (by kernel_rfl) (by kernel_rfl) (by kernel_rfl) (fun _ _ _ h => h) (by intro w hw; go_simp) hHeld ?_
        simp only [Act.put, List.setIfInBounds_toArray, List.set_cons_zero, List.set_cons_succ]
        refine anyH_store (i := 10) (cs := rowL 2 (fun _ => 0)) rfl rfl rfl (by kernel_rfl) (by kernel_rfl) HTh.out HS0.out H1.out ?_ ?_
        · exact (World.cell?_setCells_out _ _ _ _ _ (fun q _ => absurd q hne.symm)).trans hHeld
        · go_wp2_with fail
          exact bodyPost_ret (by simp [results, Tryz.results65]) rfl HF.out
      · change w1.cell? ⟨A, i * 8 + 1, none⟩ = some (.int .u8 5) at htc
        change r < nR 3 at r1
        have hM2 := HM1.out.below (below_d w1)
        have HAt := hideIt (at_walk3 hM2 r1)
        have hth : w1.drew.there (rb 3) (r * nC 3) (nC 3) := fun j hj => ⟨(hM2.row 3 (by omega) r r1).isSome j (by rw [rowL_len]; exact hj), hM2.rfz 3 (by omega) _⟩
        have hsame := World.rangeAt_setCells_same w1.drew (rb 3) (r * nC 3) (rowL 3 (fun _ => 0)) (by rw [rowL_len]; exact hth)
        have hmany := St1.many w1.drew (rb 3) (r * nC 3) (rowL 3 (fun _ => 0))
        rw [rowL_len] at hmany
        have HF : Hid (MrPost A rb sb s tl ws (clrX (ob s ws) i g) w (.returned .nilIface) (w1.drew.setCells (rb 3) (r * nC 3) (rowL 3 (fun _ => 0)))) := row_suc (Below.thr HB1.out (below_d _)) hM2 HI.out HW.out HL.out.1 (by omega) HEK.out HER.out r1 hmany hsame (Wq.zero _) (clrX_ok HL.out HEK.out HER.out)
        have HTh := hideIt (show w1.drew.there (rb 3) (r * nC 3) (rowL 3 (fun _ => 0)).length from by rw [rowL_len]; exact hth)
        have HS0 := hideIt (row_sz (t := 3) (by omega) (fun _ => 0))
        have H1 := hideIt (row_one 3 (fun _ => 0))
        have hne := (HM1.out.ar 3 (by omega)).1
        clear hM2 hth hsame hmany
        go_wp2_with fail
        refine wp_region_held_drew (S := (fun w' => w'.cell? ⟨A, i * 8 + 2, none⟩ = some (.int .u16 (r : Int)))) (by kernel_rfl) erw (fun hHeld => ?_)
        refine anyH_do (i := 0) (d := some 58) (v := (.pointer (some ⟨A, 0, none⟩))) rfl (by kernel_rfl) (by kernel_rfl) (by kernel_rfl) (fun _ _ _ h => h) (by intro w hw; go_simp) hHeld ?_
        simp only [Act.put, List.setIfInBounds_toArray, List.set_cons_zero, List.set_cons_succ]
        refine anyH_do (i := 1) (d := some 59) (v := (.pointer (some ⟨A, 0, none⟩))) rfl (by kernel_rfl) (by kernel_rfl) (by kernel_rfl) (fun _ _ _ h => h) (by intro w hw; go_simp) hHeld ?_
        simp only [Act.put, List.setIfInBounds_toArray, List.set_cons_zero, List.set_cons_succ]
        refine anyH_do (i := 2) (d := some 60) (v := (.pointer (some ⟨A, 2892, none⟩))) rfl (by kernel_rfl) (by kernel_rfl) (by kernel_rfl) (fun _ _ _ h => h) (by intro w hw; go_simp) hHeld ?_
        simp only [Act.put, List.setIfInBounds_toArray, List.set_cons_zero, List.set_cons_succ]
        refine anyH_do (i := 3) (d := some 61) (v := (.pointer (some ⟨A, i * 8, none⟩))) rfl (by kernel_rfl) (by kernel_rfl) (by kernel_rfl) (fun _ _ _ h => h) (by intro w hw; go_simp) hHeld ?_
        simp only [Act.put, List.setIfInBounds_toArray, List.set_cons_zero, List.set_cons_succ]
        refine anyH_do (i := 4) (d := some 62) (v := (.pointer (some ⟨A, i * 8, none⟩))) rfl (by kernel_rfl) (by kernel_rfl) (by kernel_rfl) (fun _ _ _ h => h) (by intro w hw; go_simp) hHeld ?_
        simp only [Act.put, List.setIfInBounds_toArray, List.set_cons_zero, List.set_cons_succ]
        refine anyH_do (i := 5) (d := some 63) (v := (.pointer (some ⟨A, i * 8 + 2, none⟩))) rfl (by kernel_rfl) (by kernel_rfl) (by kernel_rfl) (fun _ _ _ h => h) (by intro w hw; go_simp) hHeld ?_
        simp only [Act.put, List.setIfInBounds_toArray, List.set_cons_zero, List.set_cons_succ]
        refine anyH_do (i := 6) (d := some 64) (v := (.int .u16 (r : Int))) rfl (by kernel_rfl) (by kernel_rfl) (by kernel_rfl) (fun _ _ _ h => h) (by intro w hw; go_simp) hHeld ?_
        simp only [Act.put, List.setIfInBounds_toArray, List.set_cons_zero, List.set_cons_succ]
        refine anyH_do (i := 8) (d := some 66) (v := (.agg (rowL 3 (fun _ => 0)).toArray)) rfl (by kernel_rfl) (by kernel_rfl) (by kernel_rfl) (fun _ _ _ h => h) (by intro w hw; go_simp; all_goals first | exact zeT_row (t := 3) (by omega) | exact rfl) hHeld ?_
        simp only [Act.put, List.setIfInBounds_toArray, List.set_cons_zero, List.set_cons_succ]
        refine anyH_call (i := 7) (d := some 65) (f := 113) (args := #[.pointer (some ⟨A, 2892, none⟩), .int .u16 (r : Int)]) rfl (by kernel_rfl) (by go_simp) ?_
        refine HAt.out.mono ?_
        rintro e w2 ⟨rfl, hw2⟩
        subst hw2
        refine ⟨_, rfl, hHeld, ?_⟩
        simp only [Act.put, List.setIfInBounds_toArray, List.set_cons_zero, List.set_cons_succ]
        refine anyH_do (i := 9) (d := some 67) (v := (.pointer (some ⟨rb 3, r * nC 3, none⟩))) rfl (by kernel_rfl) (by kernel_rfl) (by kernel_rfl) (fun _ _ _ h => h) (by intro w hw; go_simp) hHeld ?_
        simp only [Act.put, List.setIfInBounds_toArray, List.set_cons_zero, List.set_cons_succ]
        refine anyH_store (i := 10) (cs := rowL 3 (fun _ => 0)) rfl rfl rfl (by kernel_rfl) (by kernel_rfl) HTh.out HS0.out H1.out ?_ ?_
        · exact (World.cell?_setCells_out _ _ _ _ _ (fun q _ => absurd q hne.symm)).trans hHeld
        · go_wp2_with fail
          exact bodyPost_ret (by simp [results, Tryz.results65]) rfl HF.out
      · change w1.cell? ⟨A, i * 8 + 1, none⟩ = some (.int .u8 6) at htc
        change r < nR 4 at r1
        have hM2 := HM1.out.below (below_d w1)
        have HAt := hideIt (at_walk4 hM2 r1)
        have hth : w1.drew.there (rb 4) (r * nC 4) (nC 4) := fun j hj => ⟨(hM2.row 4 (by omega) r r1).isSome j (by rw [rowL_len]; exact hj), hM2.rfz 4 (by omega) _⟩
        have hsame := World.rangeAt_setCells_same w1.drew (rb 4) (r * nC 4) (rowL 4 (fun _ => 0)) (by rw [rowL_len]; exact hth)
        have hmany := St1.many w1.drew (rb 4) (r * nC 4) (rowL 4 (fun _ => 0))
        rw [rowL_len] at hmany
        have HF : Hid (MrPost A rb sb s tl ws (clrX (ob s ws) i g) w (.returned .nilIface) (w1.drew.setCells (rb 4) (r * nC 4) (rowL 4 (fun _ => 0)))) := row_suc (Below.thr HB1.out (below_d _)) hM2 HI.out HW.out HL.out.1 (by omega) HEK.out HER.out r1 hmany hsame (Wq.zero _) (clrX_ok HL.out HEK.out HER.out)
        have HTh := hideIt (show w1.drew.there (rb 4) (r * nC 4) (rowL 4 (fun _ => 0)).length from by rw [rowL_len]; exact hth)
        have HS0 := hideIt (row_sz (t := 4) (by omega) (fun _ => 0))
        have H1 := hideIt (row_one 4 (fun _ => 0))
        have hne := (HM1.out.ar 4 (by omega)).1
        clear hM2 hth hsame hmany
        go_wp2_with fail
        refine wp_region_held_drew (S := (fun w' => w'.cell? ⟨A, i * 8 + 2, none⟩ = some (.int .u16 (r : Int)))) (by kernel_rfl) erw (fun hHeld => ?_)
        refine anyH_do (i := 0) (d := some 70) (v := (.pointer (some ⟨A, 0, none⟩))) rfl (by kernel_rfl) (by kernel_rfl) (by kernel_rfl) (fun _ _ _ h => h) (by intro w hw; go_simp) hHeld ?_
        simp only [Act.put, List.setIfInBounds_toArray, List.set_cons_zero, List.set_cons_succ]
        refine anyH_do (i := 1) (d := some 71) (v := (.pointer (some ⟨A, 0, none⟩))) rfl (by kernel_rfl) (by kernel_rfl) (by kernel_rfl) (fun _ _ _ h => h) (by intro w hw; go_simp) hHeld ?_
        simp only [Act.put, List.setIfInBounds_toArray, List.set_cons_zero, List.set_cons_succ]
        refine anyH_do (i := 2) (d := some 72) (v := (.pointer (some ⟨A, 2894, none⟩))) rfl (by kernel_rfl) (by kernel_rfl) (by kernel_rfl) (fun _ _ _ h => h) (by intro w hw; go_simp) hHeld ?_
        simp only [Act.put, List.setIfInBounds_toArray, List.set_cons_zero, List.set_cons_succ]
        refine anyH_do (i := 3) (d := some 73) (v := (.pointer (some ⟨A, i * 8, none⟩))) rfl (by kernel_rfl) (by kernel_rfl) (by kernel_rfl) (fun _ _ _ h => h) (by intro w hw; go_simp) hHeld ?_
        simp only [Act.put, List.setIfInBounds_toArray, List.set_cons_zero, List.set_cons_succ]
        refine anyH_do (i := 4) (d := some 74) (v := (.pointer (some ⟨A, i * 8, none⟩))) rfl (by kernel_rfl) (by kernel_rfl) (by kernel_rfl) (fun _ _ _ h => h) (by intro w hw; go_simp) hHeld ?_
        simp only [Act.put, List.setIfInBounds_toArray, List.set_cons_zero, List.set_cons_succ]
        refine anyH_do (i := 5) (d := some 75) (v := (.pointer (some ⟨A, i * 8 + 2, none⟩))) rfl (by kernel_rfl) (by kernel_rfl) (by kernel_rfl) (fun _ _ _ h => h) (by intro w hw; go_simp) hHeld ?_
        simp only [Act.put, List.setIfInBounds_toArray, List.set_cons_zero, List.set_cons_succ]
        refine anyH_do (i := 6) (d := some 76) (v := (.int .u16 (r : Int))) rfl (by kernel_rfl) (by kernel_rfl) (by kernel_rfl) (fun _ _ _ h => h) (by intro w hw; go_simp) hHeld ?_
        simp only [Act.put, List.setIfInBounds_toArray, List.set_cons_zero, List.set_cons_succ]
        refine anyH_do (i := 8) (d := some 78) (v := (.agg (rowL 4 (fun _ => 0)).toArray)) rfl (by kernel_rfl) (by kernel_rfl) (by kernel_rfl) (fun _ _ _ h => h) (by intro w hw; go_simp; all_goals first | exact zeT_row (t := 4) (by omega) | exact rfl) hHeld ?_
        simp only [Act.put, List.setIfInBounds_toArray, List.set_cons_zero, List.set_cons_succ]
        refine anyH_call (i := 7) (d := some 77) (f := 114) (args := #[.pointer (some ⟨A, 2894, none⟩), .int .u16 (r : Int)]) rfl (by kernel_rfl) (by go_simp) ?_
        refine HAt.out.mono ?_
        rintro e w2 ⟨rfl, hw2⟩
        subst hw2
        refine ⟨_, rfl, hHeld, ?_⟩
        simp only [Act.put, List.setIfInBounds_toArray, List.set_cons_zero, List.set_cons_succ]
        refine anyH_do (i := 9) (d := some 79) (v := (.pointer (some ⟨rb 4, r * nC 4, none⟩))) rfl (by kernel_rfl) (by kernel_rfl) (by kernel_rfl) (fun _ _ _ h => h) (by intro w hw; go_simp) hHeld ?_
        simp only [Act.put, List.setIfInBounds_toArray, List.set_cons_zero, List.set_cons_succ]
        refine anyH_store (i := 10) (cs := rowL 4 (fun _ => 0)) rfl rfl rfl (by kernel_rfl) (by kernel_rfl) HTh.out HS0.out H1.out ?_ ?_
        · exact (World.cell?_setCells_out _ _ _ _ _ (fun q _ => absurd q hne.symm)).trans hHeld
        · go_wp2_with fail
          exact bodyPost_ret (by simp [results, Tryz.results65]) rfl HF.out
      · change w1.cell? ⟨A, i * 8 + 1, none⟩ = some (.int .u8 7) at htc
        change r < nR 5 at r1
        have hM2 := HM1.out.below (below_d w1)
        have HAt := hideIt (at_walk5 hM2 r1)
        have hth : w1.drew.there (rb 5) (r * nC 5) (nC 5) := fun j hj => ⟨(hM2.row 5 (by omega) r r1).isSome j (by rw [rowL_len]; exact hj), hM2.rfz 5 (by omega) _⟩
        have hsame := World.rangeAt_setCells_same w1.drew (rb 5) (r * nC 5) (rowL 5 (fun _ => 0)) (by rw [rowL_len]; exact hth)
        have hmany := St1.many w1.drew (rb 5) (r * nC 5) (rowL 5 (fun _ => 0))
        rw [rowL_len] at hmany
        have HF : Hid (MrPost A rb sb s tl ws (clrX (ob s ws) i g) w (.returned .nilIface) (w1.drew.setCells (rb 5) (r * nC 5) (rowL 5 (fun _ => 0)))) := row_suc (Below.thr HB1.out (below_d _)) hM2 HI.out HW.out HL.out.1 (by omega) HEK.out HER.out r1 hmany hsame (Wq.zero _) (clrX_ok HL.out HEK.out HER.out)
        have HTh := hideIt (show w1.drew.there (rb 5) (r * nC 5) (rowL 5 (fun _ => 0)).length from by rw [rowL_len]; exact hth)
        have HS0 := hideIt (row_sz (t := 5) (by omega) (fun _ => 0))
        have H1 := hideIt (row_one 5 (fun _ => 0))
        have hne := (HM1.out.ar 5 (by omega)).1
        clear hM2 hth hsame hmany
        go_wp2_with fail
        refine wp_region_held_drew (S := (fun w' => w'.cell? ⟨A, i * 8 + 2, none⟩ = some (.int .u16 (r : Int)))) (by kernel_rfl) erw (fun hHeld => ?_)
        refine anyH_do (i := 0) (d := some 82) (v := (.pointer (some ⟨A, 0, none⟩))) rfl (by kernel_rfl) (by kernel_rfl) (by kernel_rfl) (fun _ _ _ h => h) (by intro w hw; go_simp) hHeld ?_
        simp only [Act.put, List.setIfInBounds_toArray, List.set_cons_zero, List.set_cons_succ]
        refine anyH_do (i := 1) (d := some 83) (v := (.pointer (some ⟨A, 0, none⟩))) rfl (by kernel_rfl) (by kernel_rfl) (by kernel_rfl) (fun _ _ _ h => h) (by intro w hw; go_simp) hHeld ?_
        simp only [Act.put, List.setIfInBounds_toArray, List.set_cons_zero, List.set_cons_succ]
        refine anyH_do (i := 2) (d := some 84) (v := (.pointer (some ⟨A, 2896, none⟩))) rfl (by kernel_rfl) (by kernel_rfl) (by kernel_rfl) (fun _ _ _ h => h) (by intro w hw; go_simp) hHeld ?_
        simp only [Act.put, List.setIfInBounds_toArray, List.set_cons_zero, List.set_cons_succ]
        refine anyH_do (i := 3) (d := some 85) (v := (.pointer (some ⟨A, i * 8, none⟩))) rfl (by kernel_rfl) (by kernel_rfl) (by kernel_rfl) (fun _ _ _ h => h) (by intro w hw; go_simp) hHeld ?_
        simp only [Act.put, List.setIfInBounds_toArray, List.set_cons_zero, List.set_cons_succ]
        refine anyH_do (i := 4) (d := some 86) (v := (.pointer (some ⟨A, i * 8, none⟩))) rfl (by kernel_rfl) (by kernel_rfl) (by kernel_rfl) (fun _ _ _ h => h) (by intro w hw; go_simp) hHeld ?_
        simp only [Act.put, List.setIfInBounds_toArray, List.set_cons_zero, List.set_cons_succ]
        refine anyH_do (i := 5) (d := some 87) (v := (.pointer (some ⟨A, i * 8 + 2, none⟩))) rfl (by kernel_rfl) (by kernel_rfl) (by kernel_rfl) (fun _ _ _ h => h) (by intro w hw; go_simp) hHeld ?_
        simp only [Act.put, List.setIfInBounds_toArray, List.set_cons_zero, List.set_cons_succ]
        refine anyH_do (i := 6) (d := some 88) (v := (.int .u16 (r : Int))) rfl (by kernel_rfl) (by kernel_rfl) (by kernel_rfl) (fun _ _ _ h => h) (by intro w hw; go_simp) hHeld ?_
        simp only [Act.put, List.setIfInBounds_toArray, List.set_cons_zero, List.set_cons_succ]
        refine anyH_do (i := 8) (d := some 90) (v := (.agg (rowL 5 (fun _ => 0)).toArray)) rfl (by kernel_rfl) (by kernel_rfl) (by kernel_rfl) (fun _ _ _ h => h) (by intro w hw; go_simp; all_goals first | exact zeT_row (t := 5) (by omega) | exact rfl) hHeld ?_
        simp only [Act.put, List.setIfInBounds_toArray, List.set_cons_zero, List.set_cons_succ]
        refine anyH_call (i := 7) (d := some 89) (f := 115) (args := #[.pointer (some ⟨A, 2896, none⟩), .int .u16 (r : Int)]) rfl (by kernel_rfl) (by go_simp) ?_
        refine HAt.out.mono ?_
        rintro e w2 ⟨rfl, hw2⟩
        subst hw2
        refine ⟨_, rfl, hHeld, ?_⟩
        simp only [Act.put, List.setIfInBounds_toArray, List.set_cons_zero, List.set_cons_succ]
        refine anyH_do (i := 9) (d := some 91) (v := (.pointer (some ⟨rb 5, r * nC 5, none⟩))) rfl (by kernel_rfl) (by kernel_rfl) (by kernel_rfl) (fun _ _ _ h => h) (by intro w hw; go_simp) hHeld ?_
        simp only [Act.put, List.setIfInBounds_toArray, List.set_cons_zero, List.set_cons_succ]
        refine anyH_store (i := 10) (cs := rowL 5 (fun _ => 0)) rfl rfl rfl (by kernel_rfl) (by kernel_rfl) HTh.out HS0.out H1.out ?_ ?_
        · exact (World.cell?_setCells_out _ _ _ _ _ (fun q _ => absurd q hne.symm)).trans hHeld
        · go_wp2_with fail
          exact bodyPost_ret (by simp [results, Tryz.results65]) rfl HF.out
  · obtain ⟨b, rfl, hbc⟩ := hv0
    have HF : Hid (MrPost A rb sb s tl ws (clrX (ob s ws) i g) w (.returned (.iface 212 (.pointer (some ⟨b, 0, none⟩)))) w1) := MrPost.err (clrX_dead hl) ⟨⟨b, rfl, hbc⟩, stale_ne i g, HB1.out⟩
    clear hbc hl
    go_wp2_with fail
    exact bodyPost_ret (by simp [results, Tryz.results65]) rfl HF.out
end
end Go.Proofs.Qxb6500847aGreatDoor.Os
