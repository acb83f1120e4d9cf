/-
  The abstract model: region.
-/
import Derived.Test.Qxb6500847aGreatDoorMdJ
import Derived.Test.Qxb6500847aGreatDoorMdK
import Derived.Test.Qxb6500847aGreatDoorMdH
namespace Go.Proofs.Qxb6500847aGreatDoor.Os
open Go.RowKit FloorA
set_option maxRecDepth 100000
section
variable {s : Av} {tl : Nat → List Int} {ws : Nat → Nat → Nat → Int} {L : Nat → List Nat} {n : Nat} {w w' : World} {B : Nat} {wb : Nat → Nat}
set_option maxHeartbeats 32000000 in
theorem region_m (h : Md w B wb (ob s ws)) (hS : Sd s tl ws L n) (i : Nat) (h6 : i < 65536) (g : Int) :
    Calls Tryz.prog 77 #[.pointer (some ⟨B, 0, none⟩), .agg #[.int .u16 (i : Int), .int .u32 g]] w (MsP B wb (ob s ws) (regX (ob s ws) i g, ob s ws) w) := by
  have hb0 := stW_below i g w
  obtain ⟨x0, x1, _, _⟩ := two_cells (stW_r i g w)
  have HR := hideIt (stW_r i g w)
  have HS := hideIt (stW_s i g w)
  have H0 := hideIt h
  have HM := hideIt (h.below hb0)
  have HMk := hideIt hS.num
  have HB := hideIt hb0
  have HC := hideIt (checkR_m HM.out i h6 g)
  obtain ⟨X, hX⟩ : ∃ X, X = (regX (ob s ws) i g, ob s ws) := ⟨_, rfl⟩
  rw [← hX]
  have HX := hideIt hX
  clear h hb0 hX
  by_cases hc : chkR (ob s ws) i g = 0
  · have hi : i < 320 := by
      unfold chkR at hc
      by_cases q : chk (ob s ws) i g ≠ 0
      · rw [if_pos q] at hc; exact absurd hc q
      · exact (chk_lt (by simpa using q)).1
    have i3 : (i : Int) < 320 := by omega
    have hreg := hS.reg hc
    obtain ⟨T, E, hT, hE, hTE, hE2⟩ := hS.ends hreg
    rw [hc] at HC
    have HCK : Hid (chkR (ob s ws) i g = 0) := hc
    have i6 : wrap64 (i : Int) = (i : Int) := by unfold wrap64; omega
    clear hc
    go_enter Tryz.func77, Tryz.ntmps77
    go_upto_region 1 with fail
    rw [show (w.alloc (.cells #[.int .u16 (i : Int), .int .u32 g] 32)).alloc (.cells #[.int .u8 0, .slice none 0 0, .slice none 0 0] 57) = stW i g w from rfl]
    generalize stW i g w = w0 at *
    go_wp2_with fail
    go_at_call 214
    refine HC.out.mono ?_
    rintro e w1 ⟨rfl, hb1⟩
    have hr1 := (hb1.block _ (heap_lt HR.out)).trans HR.out
    obtain ⟨y0, y1, _, _⟩ := two_cells hr1
    have HB1 := hideIt (Below.thr HB.out hb1)
    have HM1 := hideIt (HM.out.below hb1)
    have HS1 := hideIt ((hb1.block _ (heap_lt HS.out)).trans HS.out)
    have HR1 := hideIt hr1
    clear hb1 hr1 x0 x1 HC HM HS HR HB
    have HX3 : Hid (X = (⟨0, [parR (ob s ws) i], [(ob s ws i).bas, (ob s ws i).siz, (T : Int), (E : Int) - (T : Int), ((kdsM (ob s ws) i).length : Int)]⟩, ob s ws)) := by show X = _; rw [HX.out]; unfold regX; rw [if_neg (by rw [HCK.out]; simp), hT, hE]
    have HRf0 := hideIt (fun w' (hb : Below w1.heap.size w1 w') => ref_par (HM1.out.below hb) HMk.out hi)
    have HTp0 := hideIt (fun w' (hb : Below w1.heap.size w1 w') => top_m (HM1.out.below hb) HMk.out hi (hS.isk hi) (tf_top hS.ix hS.iv hreg))
    have HEn0 := hideIt (fun w' (hb : Below w1.heap.size w1 w') => end_m (HM1.out.below hb) HMk.out hi)
    have HCh0 := hideIt (fun w' (hb : Below w1.heap.size w1 w') => children_m (HM1.out.below hb) HMk.out hi (hS.isk hi))
    rw [hT] at HTp0
    rw [hE] at HEn0
    have hkl := kds_len (ob s ws) i
    have z4 := HM1.out.par hi
    have z2 := HM1.out.bas hi
    have z3 := HM1.out.siz hi
    clear HX hS hreg hT hE
    generalize (kdsM (ob s ws) i) = kds at *
    generalize parR (ob s ws) i = pr at *
    obtain ⟨p1, p2⟩ := pr
    generalize (ob s ws i).bas = ba at *
    generalize (ob s ws i).siz = si at *
    generalize pz (ob s ws i).par = pa at *
    have HRf : Hid (∀ w', Below w1.heap.size w1 w' → Calls Tryz.prog 206 #[.pointer (some ⟨B, 0, none⟩), .int .i64 pa] w' (fun e w2 => e = .returned (.agg #[.int .u16 (p1 : Int), .int .u32 p2]) ∧ Below w1.heap.size w1 w2 ∧ Below w'.heap.size w' w2)) := fun w' hb => (HRf0.out w' hb).mono (fun e w2 q => ⟨q.1, Below.thr hb q.2, q.2⟩)
    have HTp : Hid (∀ w', Below w1.heap.size w1 w' → Calls Tryz.prog 216 #[.pointer (some ⟨B, 0, none⟩), .int .i64 (i : Int)] w' (fun e w2 => e = .returned (.int .u64 (T : Int)) ∧ Below w1.heap.size w1 w2 ∧ Below w'.heap.size w' w2)) := fun w' hb => (HTp0.out w' hb).mono (fun e w2 q => ⟨q.1, Below.thr hb q.2, q.2⟩)
    have HEn : Hid (∀ w', Below w1.heap.size w1 w' → Calls Tryz.prog 204 #[.pointer (some ⟨B, 0, none⟩), .int .i64 (i : Int)] w' (fun e w2 => e = .returned (.int .u64 (E : Int)) ∧ Below w1.heap.size w1 w2 ∧ Below w'.heap.size w' w2)) := fun w' hb => (HEn0.out w' hb).mono (fun e w2 q => by obtain ⟨q1, m, q2⟩ := q; rw [q2]; exact ⟨q1, Below.thr hb (belowN _ _), belowN _ _⟩)
    have HCh : Hid (∀ w', Below w1.heap.size w1 w' → Calls Tryz.prog 212 #[.pointer (some ⟨B, 0, none⟩), .int .i64 (i : Int)] w' (fun e w2 => ∃ ca cc, e = .returned (.slice ca kds.length cc) ∧ Below w1.heap.size w1 w2 ∧ Below w'.heap.size w' w2)) := fun w' hb => (HCh0.out w' hb).mono (fun e w2 q => by obtain ⟨v, q1, q2, q3⟩ := q; obtain ⟨ca, cc, q4⟩ := q2.form; rw [q4] at q1; exact ⟨ca, cc, q1, Below.thr hb q3, q3⟩)
    clear HRf0 HTp0 HEn0 HCh0
    generalize kds.length = kl at *
    have KP : Hid (∀ w', Below w1.heap.size w1 w' → w'.cell? ⟨B, i * 6 + 4, none⟩ = some (.int .i64 pa) ∧ w'.cell? ⟨B, i * 6 + 2, none⟩ = some (.int .u64 ba) ∧ w'.cell? ⟨B, i * 6 + 3, none⟩ = some (.int .u64 si)) := fun w' k => ⟨(k.cell (p := ⟨B, i * 6 + 4, none⟩) (cell_lt z4)).trans z4, (k.cell (p := ⟨B, i * 6 + 2, none⟩) (cell_lt z2)).trans z2, (k.cell (p := ⟨B, i * 6 + 3, none⟩) (cell_lt z3)).trans z3⟩
    have KR := hideIt (fun w' (k : Below w1.heap.size w1 w') => three_cells ((k.block (w.heap.size + 1) (heap_lt HS1.out)).trans HS1.out))
    have ne : w.heap.size + 1 ≠ B := by have := H0.out.lt; omega
    have hsub : IntKind.u64.wrap ((E : Int) - (T : Int)) = (E : Int) - (T : Int) := u64_same (by omega) (by omega)
    have hkw : IntKind.u64.wrap (kl : Int) = (kl : Int) := u64_same (by omega) (by omega)
    have hb5 : Below w1.heap.size w1 w1.drew := below_d _
    clear HMk
    go_wp2_with fail
    go_cut [4] (fun v wx => v = .pointer (some ⟨w.heap.size + 1, 0, none⟩) ∧ ∃ (W : World) (a b : Nat), Below w1.heap.size w1 W ∧ W.heap[a]? = some (.cells #[.int .u16 (p1 : Int), .int .u32 p2] 32 (0, 0)) ∧ w1.heap.size ≤ a ∧ W.heap[b]? = some (.cells #[.int .u64 ba, .int .u64 si, .int .u64 (T : Int), .int .u64 ((E : Int) - (T : Int)), .int .u64 (kl : Int)] 34 (0, 0)) ∧ w1.heap.size ≤ b ∧ wx = ((W.setCell ⟨w.heap.size + 1, 0, none⟩ (.int .u8 0)).setCell ⟨w.heap.size + 1, 1, none⟩ (.slice (some ⟨a, 0, none⟩) 1 1)).setCell ⟨w.heap.size + 1, 2, none⟩ (.slice (some ⟨b, 0, none⟩) 5 5))
    case first =>
      go_region_held3 (fun w' => w'.cell? ⟨B, i * 6 + 4, none⟩ = some (.int .i64 pa) ∧ w'.cell? ⟨B, i * 6 + 2, none⟩ = some (.int .u64 ba) ∧ w'.cell? ⟨B, i * 6 + 3, none⟩ = some (.int .u64 si)) (first | exact KP.out _ hb5 | exact KP.out _ (Below.thr hb5 (alloc_below _)) | exact KP.out _ (Below.thr (Below.thr hb5 (alloc_below _)) (alloc_below _)) | go_keep)
        (first
          | (go_at_call 206; refine (HRf.out _ (by first | exact hb5 | exact Below.thr hb5 (alloc_below _))).mono ?_; rintro e w6 ⟨rfl, hb6, hbr6⟩; (first | (have haa := (hbr6.block _ (heap_lt haa)).trans haa) | (have hab := hb5.size; have haa := (hbr6.block _ (by simp)).trans (heap_new _ (.cells #[.int .u16 (p1 : Int), .int .u32 p2] 32))) | skip); have hb5 := hb6)
          | (go_at_call 216; refine (HTp.out _ (by first | exact hb5 | exact Below.thr hb5 (alloc_below _))).mono ?_; rintro e w6 ⟨rfl, hb6, hbr6⟩; (first | (have haa := (hbr6.block _ (heap_lt haa)).trans haa) | (have hab := hb5.size; have haa := (hbr6.block _ (by simp)).trans (heap_new _ (.cells #[.int .u16 (p1 : Int), .int .u32 p2] 32))) | skip); have hb5 := hb6)
          | (go_at_call 204; refine (HEn.out _ (by first | exact hb5 | exact Below.thr hb5 (alloc_below _))).mono ?_; rintro e w6 ⟨rfl, hb6, hbr6⟩; (first | (have haa := (hbr6.block _ (heap_lt haa)).trans haa) | (have hab := hb5.size; have haa := (hbr6.block _ (by simp)).trans (heap_new _ (.cells #[.int .u16 (p1 : Int), .int .u32 p2] 32))) | skip); have hb5 := hb6)
          | (go_at_call 212; refine (HCh.out _ (by first | exact hb5 | exact Below.thr hb5 (alloc_below _))).mono ?_; rintro e w6 ⟨ca, cc, rfl, hb6, hbr6⟩; (first | (have haa := (hbr6.block _ (heap_lt haa)).trans haa) | (have hab := hb5.size; have haa := (hbr6.block _ (by simp)).trans (heap_new _ (.cells #[.int .u16 (p1 : Int), .int .u32 p2] 32))) | skip); have hb5 := hb6; obtain ⟨b0, b1, b2, f0, f1, f2⟩ := KR.out _ (Below.thr hb6 (alloc_below (.cells #[.int .u64 ba, .int .u64 si, .int .u64 (T : Int), .int .u64 ((E : Int) - (T : Int)), .int .u64 (kl : Int)] 34))); obtain ⟨d0, d1, d2, e0, e1, e2⟩ := KR.out _ (Below.thr (Below.thr hb6 (alloc_below (.cells #[.int .u16 (p1 : Int), .int .u32 p2] 32))) (alloc_below (.cells #[.int .u64 ba, .int .u64 si, .int .u64 (T : Int), .int .u64 ((E : Int) - (T : Int)), .int .u64 (kl : Int)] 34))); obtain ⟨j0, j1, j2, i0, i1, i2⟩ := KR.out _ (Below.thr (Below.thr hb6 (alloc_below (.cells #[.int .u64 ba, .int .u64 si, .int .u64 (T : Int), .int .u64 ((E : Int) - (T : Int)), .int .u64 (kl : Int)] 34))) (alloc_below (.cells #[.int .u16 (p1 : Int), .int .u32 p2] 32)))))
      all_goals (try go_wp2_with fail)
      all_goals go_meet
      all_goals first
        | exact ⟨rfl, w6.alloc (.cells #[.int .u64 ba, .int .u64 si, .int .u64 (T : Int), .int .u64 ((E : Int) - (T : Int)), .int .u64 (kl : Int)] 34), _, w6.heap.size, Below.thr hb6 (alloc_below _), (heap_alloc_old _ _ (heap_lt haa)).trans haa, hab, heap_new _ _, hb6.size, rfl⟩
        | exact ⟨rfl, (w6.alloc (.cells #[.int .u16 (p1 : Int), .int .u32 p2] 32)).alloc (.cells #[.int .u64 ba, .int .u64 si, .int .u64 (T : Int), .int .u64 ((E : Int) - (T : Int)), .int .u64 (kl : Int)] 34), w6.heap.size, w6.heap.size + 1, Below.thr (Below.thr hb6 (alloc_below _)) (alloc_below _), (heap_alloc_old _ _ (by simp)).trans (heap_new _ _), hb6.size, new_at _ _ (by simp), by have := hb6.size; omega, rfl⟩
        | exact ⟨rfl, (w6.alloc (.cells #[.int .u64 ba, .int .u64 si, .int .u64 (T : Int), .int .u64 ((E : Int) - (T : Int)), .int .u64 (kl : Int)] 34)).alloc (.cells #[.int .u16 (p1 : Int), .int .u32 p2] 32), w6.heap.size + 1, w6.heap.size, Below.thr (Below.thr hb6 (alloc_below _)) (alloc_below _), new_at _ _ (by simp), by have := hb6.size; omega, (heap_alloc_old _ _ (by simp)).trans (heap_new _ _), hb6.size, rfl⟩
    case rest =>
      obtain ⟨rfl, W, a, b, hbW, ha, ha4, hb, hb4, rfl⟩ := hcut
      have hsz : w.heap.size + 2 ≤ w1.heap.size := by have := heap_lt HS1.out; omega
      have HF : Hid (MsP B wb (ob s ws) X w (.returned (.agg #[.int .u8 0, .slice (some ⟨a, 0, none⟩) 1 1, .slice (some ⟨b, 0, none⟩) 5 5])) (((W.setCell ⟨w.heap.size + 1, 0, none⟩ (.int .u8 0)).setCell ⟨w.heap.size + 1, 1, none⟩ (.slice (some ⟨a, 0, none⟩) 1 1)).setCell ⟨w.heap.size + 1, 2, none⟩ (.slice (some ⟨b, 0, none⟩) 5 5))) := by
        show MsP _ _ _ _ _ _ _
        rw [HX3.out]
        exact MsP.fin (X := ⟨0, [(p1, p2)], [ba, si, (T : Int), (E : Int) - (T : Int), (kl : Int)]⟩) H0.out (Below.thr HB1.out hbW) rfl (isR_new ha (by omega)) (isU_new (l := [ba, si, (T : Int), (E : Int) - (T : Int), (kl : Int)]) hb (by omega)) (.int .u8 0) (.slice (some ⟨a, 0, none⟩) 1 1) (.slice (some ⟨b, 0, none⟩) 5 5)
      have HZ := hideIt (three_set ((hbW.block _ (heap_lt HS1.out)).trans HS1.out) (.int .u8 0) (.slice (some ⟨a, 0, none⟩) 1 1) (.slice (some ⟨b, 0, none⟩) 5 5))
      clear ha hb ha4 hb4 hbW hsz
      go_wp2_with fail
      refine bodyPost_ret (v := .agg #[.int .u8 0, (.slice (some ⟨a, 0, none⟩) 1 1), (.slice (some ⟨b, 0, none⟩) 5 5)]) ?_ rfl HF.out
      exact results_cell_row (by exact Tryz.results77) _ _ (w.heap.size + 1) _ _ _ _ (by rfl) (by exact HZ.out) Tryz.underlying57 rfl (by kernel_rfl)
  · have hX2 : X = (bad (chkR (ob s ws) i g), ob s ws) := by rw [HX.out]; unfold regX; rw [if_pos hc]
    have HX2 := hideIt hX2
    have hcb : (chkR (ob s ws) i g != 0) = true := by rw [bne_iff_ne]; exact hc
    clear hX2 hc HX
    generalize chkR (ob s ws) i g = c at *
    go_enter Tryz.func77, Tryz.ntmps77
    go_upto_region 1 with fail
    rw [show (w.alloc (.cells #[.int .u16 (i : Int), .int .u32 g] 32)).alloc (.cells #[.int .u8 0, .slice none 0 0, .slice none 0 0] 57) = stW i g w from rfl]
    generalize stW i g w = w0 at *
    go_wp2_with fail
    go_at_call 214
    refine HC.out.mono ?_
    rintro e w1 ⟨rfl, hb1⟩
    have HB1 := hideIt (Below.thr HB.out hb1)
    have HS1 := hideIt ((hb1.block _ (heap_lt HS.out)).trans HS.out)
    clear hb1 x0 x1 HC HM HS HR HB
    go_wp2_with (go_at_call 90; refine (fail_m _ _).mono ?_; rintro e w3 ⟨rfl, hb3⟩; have hs3 := (hb3.block _ (heap_lt HS1.out)).trans HS1.out; obtain ⟨q0, q1, q2, k0, k1, k2⟩ := three_cells hs3; have HZ := hideIt (three_set hs3 (.int .u8 c) (.slice none 0 0) (.slice none 0 0)); have HF := hideIt (MsP.bad H0.out ((((Below.thr HB1.out hb3).setCell (p := ⟨w.heap.size + 1, 0, none⟩) (Nat.le_succ _) (.int .u8 c)).setCell (p := ⟨w.heap.size + 1, 1, none⟩) (Nat.le_succ _) (.slice none 0 0)).setCell (p := ⟨w.heap.size + 1, 2, none⟩) (Nat.le_succ _) (.slice none 0 0)) HX2.out); clear hb3 hs3)
    refine bodyPost_ret (v := .agg #[.int .u8 c, (.slice none 0 0), (.slice none 0 0)]) ?_ rfl HF.out
    exact results_cell_row (by exact Tryz.results77) _ _ (w.heap.size + 1) _ _ _ _ (by rfl) (by exact HZ.out) Tryz.underlying57 rfl (by kernel_rfl)
end
end Go.Proofs.Qxb6500847aGreatDoor.Os
