/-
  The abstract model: lookup.
-/
import Derived.Test.Qxb6500847aGreatDoorMdJ
import Derived.Test.Qxb6500847aGreatDoorMdK
namespace Go.Proofs.Qxb6500847aGreatDoor.Os
open Go.RowKit FloorA
set_option maxRecDepth 100000
section
variable {w w' : World} {B : Nat} {wb : Nat → Nat} {M : Nat → En}
set_option maxHeartbeats 4000000 in
theorem lookup_m (h : Md w B wb M) (hM : Mk M) (i : Nat) (h6 : i < 65536) (g : Int) :
    Calls Tryz.prog 76 #[.pointer (some ⟨B, 0, none⟩), .agg #[.int .u16 (i : Int), .int .u32 g]] w (MsP B wb M (lkX M i g, M) w) := by
  have hb0 := stW_below i g w
  obtain ⟨x0, x1, _, _⟩ := two_cells (stW_r i g w)
  have HR := hideIt (stW_r i g w)
  have HS := hideIt (stW_s i g w)
  have H0 := hideIt h
  have HM := hideIt (h.below hb0)
  have HMk := hideIt hM
  have HB := hideIt hb0
  have HC := hideIt (check_m HM.out i h6 g)
  obtain ⟨X, hX⟩ : ∃ X, X = (lkX M i g, M) := ⟨_, rfl⟩
  rw [← hX]
  have HX := hideIt hX
  clear h hb0 hM hX
  by_cases hc : chk M i g = 0
  · obtain ⟨hi, _, _, _⟩ := chk_lt hc
    have i3 : (i : Int) < 320 := by omega
    rw [hc] at HC
    have HCK : Hid (chk M i g = 0) := hc
    have i6 : wrap64 (i : Int) = (i : Int) := by unfold wrap64; omega
    clear hc
    go_enter Tryz.func76, Tryz.ntmps76
    go_upto_region 1 with fail
    rw [show (w.alloc (.cells #[.int .u16 (i : Int), .int .u32 g] 32)).alloc (.cells #[.int .u8 0, .slice none 0 0, .slice none 0 0] 57) = stW i g w from rfl]
    generalize stW i g w = w0 at *
    go_wp2_with fail
    go_at_call 211
    refine HC.out.mono ?_
    rintro e w1 ⟨rfl, hb1⟩
    have hr1 := (hb1.block _ (heap_lt HR.out)).trans HR.out
    obtain ⟨y0, y1, _, _⟩ := two_cells hr1
    have HB1 := hideIt (Below.thr HB.out hb1)
    have HM1 := hideIt (HM.out.below hb1)
    have HS1 := hideIt ((hb1.block _ (heap_lt HS.out)).trans HS.out)
    have HR1 := hideIt hr1
    clear hb1 hr1 x0 x1 HC HM HS HR HB
    obtain ⟨v, hv, hd⟩ := HM1.out.wrd i hi
    obtain ⟨ad, c9, rfl⟩ := hd.form
    have z0 := HM1.out.gen hi
    have z1 := HM1.out.typ hi
    have z2 := HM1.out.bas hi
    have z3 := HM1.out.siz hi
    have z4 := HM1.out.par hi
    have hba := alloc_below (w := w1) (.cells #[.int .u32 0, .int .u8 0, .int .u64 0, .int .u64 0, .int .i64 0, .slice none 0 0] 147)
    have hma := HM1.out.below hba
    have a0 := hma.gen hi
    have a1 := hma.typ hi
    have a2 := hma.bas hi
    have a3 := hma.siz hi
    have a4 := hma.par hi
    have a5 := (hba.cell (p := ⟨B, i * 6 + 5, none⟩) (cell_lt hv)).trans hv
    have ya := (hba.cell (p := ⟨w.heap.size, 0, none⟩) (cell_lt y0)).trans y0
    clear hba hma
    obtain ⟨tk, htk, tk7, _⟩ := HMk.out.typ i hi
    have HX3 : Hid (X = (⟨0, [parR M i], [(M i).typ, (M i).bas, (M i).siz]⟩, M)) := by show X = _; rw [HX.out]; unfold lkX; rw [if_neg (by rw [HCK.out]; simp)]
    have HRf := hideIt (fun w' (hb : Below w1.heap.size w1 w') => ref_par (HM1.out.below hb) HMk.out hi)
    rw [htk] at z1 a1 HX3
    clear hd HX htk
    generalize (M i).wds.length = wl at *
    generalize parR M i = pr at *
    obtain ⟨p1, p2⟩ := pr
    have HRf2 : Hid (∀ w', Below w1.heap.size w1 w' → Calls Tryz.prog 206 #[.pointer (some ⟨B, 0, none⟩), .int .i64 (pz (M i).par)] w' (fun e w2 => e = .returned (.agg #[.int .u16 (p1 : Int), .int .u32 p2]) ∧ Below w'.heap.size w' w2)) := HRf.out
    generalize (M i).gen = ge at *
    generalize (M i).bas = ba at *
    generalize (M i).siz = si at *
    generalize pz (M i).par = pa at *
    go_wp2_with fail
    go_region
    have hb4 : Below w1.heap.size w1 (w1.alloc (.cells #[.int .u32 g, .int .u8 (tk : Int), .int .u64 ba, .int .u64 si, .int .i64 pa, .slice ad wl c9] 147)).drew := Below.thr (alloc_below _) (below_d _)
    have hE : (w1.alloc (.cells #[.int .u32 g, .int .u8 (tk : Int), .int .u64 ba, .int .u64 si, .int .i64 pa, .slice ad wl c9] 147)).drew.heap[w1.heap.size]? = some (.cells #[.int .u32 g, .int .u8 (tk : Int), .int .u64 ba, .int .u64 si, .int .i64 pa, .slice ad wl c9] 147 (0, 0)) := heap_new _ _
    have hs4 := (hb4.block _ (heap_lt HS1.out)).trans HS1.out
    have HB4 := hideIt (Below.thr HB1.out hb4)
    have hsz4 := heap_lt HS1.out
    have HRf4 := hideIt (fun w' (hb : Below (w1.alloc (.cells #[.int .u32 g, .int .u8 (tk : Int), .int .u64 ba, .int .u64 si, .int .i64 pa, .slice ad wl c9] 147)).drew.heap.size (w1.alloc (.cells #[.int .u32 g, .int .u8 (tk : Int), .int .u64 ba, .int .u64 si, .int .i64 pa, .slice ad wl c9] 147)).drew w') => (HRf2.out _ (Below.thr hb4 hb)).mono (fun e w2 q => (⟨q.1, Below.thr hb q.2, q.2⟩ : e = .returned (.agg #[.int .u16 (p1 : Int), .int .u32 p2]) ∧ Below (w1.alloc (.cells #[.int .u32 g, .int .u8 (tk : Int), .int .u64 ba, .int .u64 si, .int .i64 pa, .slice ad wl c9] 147)).drew.heap.size (w1.alloc (.cells #[.int .u32 g, .int .u8 (tk : Int), .int .u64 ba, .int .u64 si, .int .i64 pa, .slice ad wl c9] 147)).drew w2 ∧ Below w'.heap.size w' w2)))
    clear hb4 z0 z1 z2 z3 z4 a0 a1 a2 a3 a4 a5 ya y0 y1 hv HM1 HB1 HS1 HR1 HRf HRf2
    generalize (w1.alloc (.cells #[.int .u32 g, .int .u8 (tk : Int), .int .u64 ba, .int .u64 si, .int .i64 pa, .slice ad wl c9] 147)).drew = w4 at *
    generalize w1.heap.size = E at *
    have hlE := heap_lt hE
    have KP : Hid (∀ w', Below w4.heap.size w4 w' → w'.cell? ⟨E, 1, none⟩ = some (.int .u8 (tk : Int)) ∧ w'.cell? ⟨E, 2, none⟩ = some (.int .u64 ba) ∧ w'.cell? ⟨E, 3, none⟩ = some (.int .u64 si) ∧ w'.cell? ⟨E, 4, none⟩ = some (.int .i64 pa)) := fun w' k => by
      have h7 := (k.block E hlE).trans hE
      exact ⟨box_cell h7 1, box_cell h7 2, box_cell h7 3, box_cell h7 4⟩
    have KR := hideIt (fun w' (k : Below w4.heap.size w4 w') => three_cells ((k.block (w.heap.size + 1) (heap_lt hs4)).trans hs4))
    have HS4 := hideIt hs4
    have ne : w.heap.size + 1 ≠ E := by omega
    have c1 := box_cell hE 1
    have c2 := box_cell hE 2
    have c3 := box_cell hE 3
    have c4 := box_cell hE 4
    simp only [List.getElem?_toArray, List.getElem?_cons_zero, List.getElem?_cons_succ] at c1 c2 c3 c4
    clear hE hs4 hlE hsz4
    have htw : IntKind.u64.wrap (tk : Int) = (tk : Int) := u64_same (by omega) (by omega)
    go_wp2_with fail
    go_cut [4] (fun v wx => v = .pointer (some ⟨w.heap.size + 1, 0, none⟩) ∧ ∃ (W : World) (a b : Nat), Below w4.heap.size w4 W ∧ W.heap[a]? = some (.cells #[.int .u16 (p1 : Int), .int .u32 p2] 32 (0, 0)) ∧ w4.heap.size ≤ a ∧ W.heap[b]? = some (.cells #[.int .u64 (tk : Int), .int .u64 ba, .int .u64 si] 34 (0, 0)) ∧ w4.heap.size ≤ b ∧ wx = ((W.setCell ⟨w.heap.size + 1, 0, none⟩ (.int .u8 0)).setCell ⟨w.heap.size + 1, 1, none⟩ (.slice (some ⟨a, 0, none⟩) 1 1)).setCell ⟨w.heap.size + 1, 2, none⟩ (.slice (some ⟨b, 0, none⟩) 3 3))
    case first =>
      go_region_held3 (fun w' => w'.cell? ⟨E, 1, none⟩ = some (.int .u8 (tk : Int)) ∧ w'.cell? ⟨E, 2, none⟩ = some (.int .u64 ba) ∧ w'.cell? ⟨E, 3, none⟩ = some (.int .u64 si) ∧ w'.cell? ⟨E, 4, none⟩ = some (.int .i64 pa)) (first | exact KP.out _ (below_d _) | exact KP.out _ hb5 | exact KP.out _ (Below.thr hb5 (alloc_below _)) | exact KP.out _ (Below.thr (Below.thr hb5 (alloc_below _)) (alloc_below _)) | exact KP.out _ (Below.thr (alloc_below _) (below_d _)) | exact KP.out _ (Below.thr (below_d _) (alloc_below _)) | go_keep)
        ((go_at_call 206; first
          | (refine (HRf4.out _ (below_d w4)).mono ?_; rintro e w5 ⟨rfl, hb5, hbr5⟩; obtain ⟨b0, b1, b2, f0, f1, f2⟩ := KR.out _ (Below.thr hb5 (alloc_below (.cells #[.int .u16 (p1 : Int), .int .u32 p2] 32))); obtain ⟨d0, d1, d2, e0, e1, e2⟩ := KR.out _ (Below.thr (Below.thr hb5 (alloc_below (.cells #[.int .u16 (p1 : Int), .int .u32 p2] 32))) (alloc_below (.cells #[.int .u64 (tk : Int), .int .u64 ba, .int .u64 si] 34))); obtain ⟨j0, j1, j2, i0, i1, i2⟩ := KR.out _ (Below.thr (Below.thr hb5 (alloc_below (.cells #[.int .u64 (tk : Int), .int .u64 ba, .int .u64 si] 34))) (alloc_below (.cells #[.int .u16 (p1 : Int), .int .u32 p2] 32))))
          | (refine (HRf4.out _ (Below.thr (alloc_below _) (below_d _))).mono ?_; rintro e w5 ⟨rfl, hb5, hbr5⟩; obtain ⟨b0, b1, b2, f0, f1, f2⟩ := KR.out _ (Below.thr hb5 (alloc_below (.cells #[.int .u16 (p1 : Int), .int .u32 p2] 32))); obtain ⟨d0, d1, d2, e0, e1, e2⟩ := KR.out _ (Below.thr (Below.thr hb5 (alloc_below (.cells #[.int .u16 (p1 : Int), .int .u32 p2] 32))) (alloc_below (.cells #[.int .u64 (tk : Int), .int .u64 ba, .int .u64 si] 34))); obtain ⟨j0, j1, j2, i0, i1, i2⟩ := KR.out _ (Below.thr (Below.thr hb5 (alloc_below (.cells #[.int .u64 (tk : Int), .int .u64 ba, .int .u64 si] 34))) (alloc_below (.cells #[.int .u16 (p1 : Int), .int .u32 p2] 32))))))
      all_goals (try go_wp2_with fail)
      all_goals go_meet
      all_goals first
        | exact ⟨rfl, (w5.alloc (.cells #[.int .u16 (p1 : Int), .int .u32 p2] 32)).alloc (.cells #[.int .u64 (tk : Int), .int .u64 ba, .int .u64 si] 34), w5.heap.size, w5.heap.size + 1, Below.thr (Below.thr hb5 (alloc_below _)) (alloc_below _), (heap_alloc_old _ _ (by simp)).trans (heap_new _ _), hb5.size, new_at _ _ (by simp), by have := hb5.size; omega, rfl⟩
        | exact ⟨rfl, (w5.alloc (.cells #[.int .u64 (tk : Int), .int .u64 ba, .int .u64 si] 34)).alloc (.cells #[.int .u16 (p1 : Int), .int .u32 p2] 32), w5.heap.size + 1, w5.heap.size, Below.thr (Below.thr hb5 (alloc_below _)) (alloc_below _), new_at _ _ (by simp), by have := hb5.size; omega, (heap_alloc_old _ _ (by simp)).trans (heap_new _ _), hb5.size, rfl⟩
        | exact ⟨rfl, w5.alloc (.cells #[.int .u16 (p1 : Int), .int .u32 p2] 32), w5.heap.size, w4.heap.size, Below.thr hb5 (alloc_below _), heap_new _ _, hb5.size, (heap_alloc_old _ _ (Nat.lt_of_lt_of_le (by simp) hbr5.size)).trans ((hbr5.block w4.heap.size (by simp)).trans (heap_new w4 _)), Nat.le_refl _, rfl⟩
    case rest =>
      obtain ⟨rfl, W, a, b, hbW, ha, ha4, hb, hb4, rfl⟩ := hcut
      have hsz : w.heap.size + 2 ≤ w4.heap.size := by have := heap_lt HS4.out; omega
      have HF : Hid (MsP B wb M X w (.returned (.agg #[.int .u8 0, .slice (some ⟨a, 0, none⟩) 1 1, .slice (some ⟨b, 0, none⟩) 3 3])) (((W.setCell ⟨w.heap.size + 1, 0, none⟩ (.int .u8 0)).setCell ⟨w.heap.size + 1, 1, none⟩ (.slice (some ⟨a, 0, none⟩) 1 1)).setCell ⟨w.heap.size + 1, 2, none⟩ (.slice (some ⟨b, 0, none⟩) 3 3))) := by
        show MsP _ _ _ _ _ _ _
        rw [HX3.out]
        exact MsP.fin (X := ⟨0, [(p1, p2)], [(tk : Int), ba, si]⟩) H0.out (Below.thr HB4.out hbW) rfl (isR_new ha (by omega)) (isU_new (l := [(tk : Int), ba, si]) hb (by omega)) (.int .u8 0) (.slice (some ⟨a, 0, none⟩) 1 1) (.slice (some ⟨b, 0, none⟩) 3 3)
      have HZ := hideIt (three_set ((hbW.block _ (heap_lt HS4.out)).trans HS4.out) (.int .u8 0) (.slice (some ⟨a, 0, none⟩) 1 1) (.slice (some ⟨b, 0, none⟩) 3 3))
      clear ha hb ha4 hb4 hbW hsz
      go_wp2_with fail
      refine bodyPost_ret (v := .agg #[.int .u8 0, (.slice (some ⟨a, 0, none⟩) 1 1), (.slice (some ⟨b, 0, none⟩) 3 3)]) ?_ rfl HF.out
      exact results_cell_row (by exact Tryz.results76) _ _ (w.heap.size + 1) _ _ _ _ (by rfl) (by exact HZ.out) Tryz.underlying57 rfl (by kernel_rfl)
  · have hX2 : X = (bad (chk M i g), M) := by rw [HX.out]; unfold lkX; rw [if_pos hc]
    have HX2 := hideIt hX2
    have hcb : (chk M i g != 0) = true := by rw [bne_iff_ne]; exact hc
    clear hX2 hc HX
    generalize chk M i g = c at *
    go_enter Tryz.func76, Tryz.ntmps76
    go_upto_region 1 with fail
    rw [show (w.alloc (.cells #[.int .u16 (i : Int), .int .u32 g] 32)).alloc (.cells #[.int .u8 0, .slice none 0 0, .slice none 0 0] 57) = stW i g w from rfl]
    generalize stW i g w = w0 at *
    go_wp2_with fail
    go_at_call 211
    refine HC.out.mono ?_
    rintro e w1 ⟨rfl, hb1⟩
    have HB1 := hideIt (Below.thr HB.out hb1)
    have HS1 := hideIt ((hb1.block _ (heap_lt HS.out)).trans HS.out)
    clear hb1 x0 x1 HC HM HS HR HB
    go_wp2_with (go_at_call 90; refine (fail_m _ _).mono ?_; rintro e w3 ⟨rfl, hb3⟩; have hs3 := (hb3.block _ (heap_lt HS1.out)).trans HS1.out; obtain ⟨q0, q1, q2, k0, k1, k2⟩ := three_cells hs3; have HZ := hideIt (three_set hs3 (.int .u8 c) (.slice none 0 0) (.slice none 0 0)); have HF := hideIt (MsP.bad H0.out ((((Below.thr HB1.out hb3).setCell (p := ⟨w.heap.size + 1, 0, none⟩) (Nat.le_succ _) (.int .u8 c)).setCell (p := ⟨w.heap.size + 1, 1, none⟩) (Nat.le_succ _) (.slice none 0 0)).setCell (p := ⟨w.heap.size + 1, 2, none⟩) (Nat.le_succ _) (.slice none 0 0)) HX2.out); clear hb3 hs3)
    refine bodyPost_ret (v := .agg #[.int .u8 c, (.slice none 0 0), (.slice none 0 0)]) ?_ rfl HF.out
    exact results_cell_row (by exact Tryz.results76) _ _ (w.heap.size + 1) _ _ _ _ (by rfl) (by exact HZ.out) Tryz.underlying57 rfl (by kernel_rfl)
end
end Go.Proofs.Qxb6500847aGreatDoor.Os
