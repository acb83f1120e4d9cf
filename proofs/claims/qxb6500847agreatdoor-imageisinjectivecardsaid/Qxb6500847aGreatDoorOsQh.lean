/-
  Locate.
-/
import Derived.Test.Qxb6500847aGreatDoorOsQg
import Derived.Test.Qxb6500847aGreatDoorOsX
namespace Go.Proofs.Qxb6500847aGreatDoor.Os
open Go.RowKit FloorA
set_option maxRecDepth 100000
section
variable {A : Nat} {rb sb : Nat → Nat} {s : Av} {tl : Nat → List Int} {ws : Nat → Nat → Nat → Int} {w : World} {L : Nat → List Nat} {n : Nat}
def LcPost (w : World) (e : Ending) (w' : World) : Prop :=
  (∃ v code, e = .returned (.tuple #[.agg #[.int .u16 0, .int .u32 0], v]) ∧ Refu w v w' code) ∨ ((∃ x y : Int, e = .returned (.tuple #[.agg #[.int .u16 x, .int .u32 y], .nilIface])) ∧ Below w.heap.size w w')
set_option maxHeartbeats 8000000 in
theorem Locate_walk (h : Ms w A rb sb s tl ws) (hI : IV s tl L n) (a : Nat) :
    Calls Tryz.prog 57 #[.pointer (some ⟨A, 0, none⟩), .int .u64 (a : Int)] w (LcPost w) := by
  have bB := alloc_below (w := w) (.cells #[.int .u16 0, .int .u32 0] 32)
  have hzc : (w.alloc (.cells #[.int .u16 0, .int .u32 0] 32)).heap[w.heap.size]? = some (.cells #[.int .u16 0, .int .u32 0] 32 (0, 0)) := heap_new _ _
  have HM := hideIt (h.below bB)
  have HB := hideIt bB
  have HI := hideIt hI
  clear h hI bB
  by_cases h1 : 281474976710656 ≤ a
  · have c1 : (a : Int) ≥ 281474976710656 := by omega
    go_enter Tryz.func57, Tryz.ntmps57
    go_wp2_with (go_at_call 123; refine (refuse_walk _ _ _ _ _ _).mono ?_; rintro e w2 ⟨v, rfl, hv, hb⟩; obtain ⟨hz2, hp2, hp3⟩ := refu_two (Nat.le_refl _) HB.out hzc hv (by omega) hb; obtain ⟨x0, x1, f0, f1⟩ := two_cells hz2; have HP2 := hideIt hp2; have HP3 := hideIt hp3; clear hv hb hp2 hp3 hz2)
    exact bodyPost_ret (results_two (by exact Tryz.results57) _ _ w.heap.size _ v (by rfl) (by rfl) (load32 HP2.out)) rfl (Or.inl ⟨v, _, rfl, HP3.out⟩)
  · have c1 : ¬ (a : Int) ≥ 281474976710656 := by omega
    have HRA := hideIt (rootAbove_walk HM.out.am HI.out.ro.rts (a : Int))
    have n64 := HI.out.ro.rts.n64
    have hp := upTo_le s n (a : Int)
    generalize hpe : upTo s n (a : Int) = p at *
    clear hpe
    go_enter Tryz.func57, Tryz.ntmps57
    go_wp2_with fail
    go_at_call 126
    refine HRA.out.mono ?_
    rintro e w1 ⟨rfl, hb1⟩
    have HB1 := hideIt (Below.thr HB.out hb1)
    have HM1 := hideIt (HM.out.below hb1)
    have HZ1 : Hid (w1.heap[w.heap.size]? = some (.cells #[.int .u16 0, .int .u32 0] 32 (0, 0))) := (hb1.block w.heap.size (heap_lt hzc)).trans hzc
    clear hb1 hzc
    have hcase : (p = 0 ∨ ∃ d : Nat, 0 < p ∧ d < 320 ∧ s.rts (p - 1) = (d : Int) ∧ IsReg s d) := by
      by_cases hp0 : p = 0
      · exact Or.inl hp0
      · obtain ⟨d, hd, ed⟩ := HI.out.ro.rts.lt (p - 1) (by omega)
        exact Or.inr ⟨d, by omega, hd, ed, (HI.out.ro.reg (p - 1) d (by omega) ed).1⟩
    rcases hcase with rfl | ⟨d, hp0, hd, ed, hreg⟩
    · go_wp2_with fail
      go_region
      all_goals
        have HBq := hideIt (Below.thr HB1.out (below_d w1))
        have HZq : Hid (w1.drew.heap[w.heap.size]? = some (.cells #[.int .u16 0, .int .u32 0] 32 (0, 0))) := HZ1.out
        generalize w1.drew = wq at *
        go_wp2_with (go_at_call 123; refine (refuse_walk _ _ _ _ _ _).mono ?_; rintro e w2 ⟨v, rfl, hv, hb⟩; obtain ⟨hz2, hp2, hp3⟩ := refu_two (Nat.le_refl _) HBq.out HZq.out hv (by omega) hb; obtain ⟨x0, x1, f0, f1⟩ := two_cells hz2; have HP2 := hideIt hp2; have HP3 := hideIt hp3; clear hv hb hp2 hp3 hz2)
        exact bodyPost_ret (results_two (by exact Tryz.results57) _ _ w.heap.size _ v (by rfl) (by rfl) (load32 HP2.out)) rfl (Or.inl ⟨v, _, rfl, HP3.out⟩)
    · have e1 := HM1.out.am.rtc (i := p - 1) (by omega)
      rw [ed] at e1
      have HE1 := hideIt e1
      have k0 : ((p : Int) == 0) = false := by rw [beq_eq_false_iff_ne]; omega
      have l2 : wrap64 ((p : Int) - 1) = (p : Int) - 1 := by unfold wrap64; omega
      have l3 : ((p : Int) - 1).toNat = p - 1 := by omega
      have l4 : (0 : Int) ≤ (p : Int) - 1 := by omega
      have l5 : (p : Int) - 1 < 64 := by omega
      have d' : (d : Int) < 320 := by omega
      have HE := hideIt (fun q => end_walk (w := w1.drewN q) (A := A) (s := s) ⟨HM1.out.am.cell, HM1.out.am.free⟩ hd)
      have HReg := hideIt hreg
      clear ed hreg
      generalize IntKind.u64.wrap ((s.hd d).bas + (s.hd d).siz) = en at *
      by_cases hen : en ≤ (a : Int)
      · go_wp2_with fail
        go_quiet ((go_at_call 47; exact Calls.quiet_of ((HE.out _).mono (fun e w' q => ⟨q.1, 1, q.2⟩))))
        have HBq := hideIt (Below.thr HB1.out (below_dN w1 nq))
        have HZq : Hid ((w1.drewN nq).heap[w.heap.size]? = some (.cells #[.int .u16 0, .int .u32 0] 32 (0, 0))) := HZ1.out
        generalize w1.drewN nq = wq at *
        go_wp2_with (go_at_call 123; refine (refuse_walk _ _ _ _ _ _).mono ?_; rintro e w2 ⟨v, rfl, hv, hb⟩; obtain ⟨hz2, hp2, hp3⟩ := refu_two (Nat.le_refl _) HBq.out HZq.out hv (by omega) hb; obtain ⟨x0, x1, f0, f1⟩ := two_cells hz2; have HP2 := hideIt hp2; have HP3 := hideIt hp3; clear hv hb hp2 hp3 hz2)
        exact bodyPost_ret (results_two (by exact Tryz.results57) _ _ w.heap.size _ v (by rfl) (by rfl) (load32 HP2.out)) rfl (Or.inl ⟨v, _, rfl, HP3.out⟩)
      · have hen' : (a : Int) < en := by omega
        clear hen
        go_wp2_with fail
        go_quiet ((go_at_call 47; exact Calls.quiet_of ((HE.out _).mono (fun e w' q => ⟨q.1, 1, q.2⟩))))
        have HMq := hideIt (HM1.out.below (below_dN w1 nq))
        have HBq := hideIt (Below.thr HB1.out (below_dN w1 nq))
        have HZq : Hid ((w1.drewN nq).heap[w.heap.size]? = some (.cells #[.int .u16 0, .int .u32 0] 32 (0, 0))) := HZ1.out
        have e2 : (w1.drewN nq).cell? ⟨A, 2821 + (p - 1), none⟩ = some (.int .u16 (d : Int)) := HE1.out
        clear e1
        generalize w1.drewN nq = wq at *
        obtain ⟨r, hr⟩ := HI.out.rk
        have HR : Hid (Rk s r) := hr
        obtain ⟨B, hB⟩ := bound_of r 320
        have HBd : Hid (∀ x, x < 320 → r x ≤ B) := hB
        have hdn : decide (en ≤ (a : Int)) = false := decide_eq_false (by omega)
        clear hr hB hen'
        rw [hdn]
        clear hdn
        go_wp2_with fail
        clear e2
        go_loopg [7] (B + 1 - r d) (fun gk v7 wr => ∃ c : Nat, c < 320 ∧ (s.hd c).typ ≠ 0 ∧ v7 = .int .u16 (c : Int) ∧ gk = B + 1 - r c ∧ Below wq.heap.size wq wr)
        case atStart => exact ⟨d, hd, by rw [HReg.out.2.2]; decide, rfl, rfl, Below.refl _ _⟩
        case round =>
          clear HE HE1 HReg l2 l3 l4 l5 k0 d' hd hp0
          obtain ⟨c, c1, ct, rfl, hgk, hbw⟩ := hrel
          have c' : (c : Int) < 320 := by omega
          have HMx := hideIt (HMq.out.below hbw)
          have HBx := hideIt (Below.thr HBq.out hbw)
          have HZx := hideIt ((hbw.block w.heap.size (heap_lt HZq.out)).trans HZq.out)
          have HBw := hideIt hbw
          have HGK := hideIt hgk
          have et := HMx.out.am.typ c1
          clear hbw hgk
          by_cases t1 : (s.hd c).typ = 1
          · have cr := reg_of HI.out c1 t1
            have HLk := hideIt (HI.out.tr.lk c cr)
            have HRk : Hid (∀ x, x ∈ L c → r c < r x ∧ r x ≤ B) := fun x hx => by
              obtain ⟨x1, x2, x3⟩ := HI.out.tr.mem cr hx
              exact ⟨HR.out x c x1 x2 x3 c1, HBd.out x x1⟩
            have i1 := cr.1
            have i2 := cr.2.1
            have k3 := HMx.out.am.rgc (i := c - 256) (f := 3) (by omega) (by omega)
            have k0 := HMx.out.am.rgc (i := c - 256) (f := 0) (by omega) (by omega)
            simp only [rgC, Nat.add_zero] at k0 k3
            rw [HI.out.tr.fst c cr] at k0
            obtain ⟨fs, hfs⟩ : ∃ q, q = hOr (L c) 65535 := ⟨_, rfl⟩
            rw [← hfs] at k0
            have HFS := hideIt hfs
            clear hfs
            rw [t1] at et
            clear t1
            by_cases htop : (a : Int) ≥ (s.rg (c - 256)).top
            · clear HLk HRk k0
              go_wp2_with (first | (go_at_call 124; refine (refOf_walk HMx.out.am c1).mono ?_; rintro e w4 ⟨rfl, hb4⟩; have hz4 := (hb4.block w.heap.size (heap_lt HZx.out)).trans HZx.out; obtain ⟨x0, x1, f0, f1⟩ := two_cells hz4; have HP4 := hideIt (two_set hz4 (.int .u16 (c : Int)) (.int .u32 (s.hd c).gen)); have HB4 := hideIt (two_below' (Below.thr HBx.out hb4) (Nat.le_refl _) (.int .u16 (c : Int)) (.int .u32 (s.hd c).gen)); clear hb4 hz4) | (go_at_call 45; refine (body_walk A cr.1 cr.2.1 _).mono ?_; rintro e w' ⟨rfl, hw'⟩; obtain rfl := hw'.symm))
              exact bodyPost_ret (results_two (by exact Tryz.results57) _ _ w.heap.size _ _ (by rfl) (by rfl) (load32 HP4.out)) rfl (Or.inr ⟨⟨_, _, rfl⟩, HB4.out⟩)
            · have htop' : decide ((s.rg (c - 256)).top ≤ (a : Int)) = false := decide_eq_false (by omega)
              clear htop
              go_wp2_with (go_at_call 45; refine (body_walk A i1 i2 _).mono ?_; rintro e w' ⟨rfl, hw'⟩; obtain rfl := hw'.symm)
              clear k0 k3 et
              generalize wr = wy at *
              go_loopg [9, 10] ((L c).length) (fun gm v9 v10 wz => ∃ l1 l2 : List Nat, L c = l1 ++ l2 ∧ gm = l2.length ∧ v9 = .int .u16 65535 ∧ v10 = .int .u16 (hOr l2 65535) ∧ Below wy.heap.size wy wz)
              case atStart => exact ⟨[], L c, rfl, rfl, rfl, by rw [HFS.out], Below.refl _ _⟩
              case round =>
                obtain ⟨l1, l2, hl, hgm, rfl, rfl, hbz⟩ := hrel
                have HMx := hideIt (HMx.out.below hbz)
                have HZx := hideIt ((hbz.block w.heap.size (heap_lt HZx.out)).trans HZx.out)
                have HBx := hideIt (Below.thr HBx.out hbz)
                have HBz := hideIt hbz
                have HBw := hideIt (Below.thr HBw.out hbz)
                have HGM := hideIt hgm
                have HLL : Hid (L c = l1 ++ l2) := hl
                clear hbz hgm
                cases l2 with
                | nil =>
                  clear hl
                  rw [show hOr [] 65535 = 65535 from rfl]
                  go_wp2_with (first | (go_at_call 124; refine (refOf_walk HMx.out.am c1).mono ?_; rintro e w4 ⟨rfl, hb4⟩; have hz4 := (hb4.block w.heap.size (heap_lt HZx.out)).trans HZx.out; obtain ⟨x0, x1, f0, f1⟩ := two_cells hz4; have HP4 := hideIt (two_set hz4 (.int .u16 (c : Int)) (.int .u32 (s.hd c).gen)); have HB4 := hideIt (two_below' (Below.thr HBx.out hb4) (Nat.le_refl _) (.int .u16 (c : Int)) (.int .u32 (s.hd c).gen)); clear hb4 hz4) | (go_at_call 45; refine (body_walk A cr.1 cr.2.1 _).mono ?_; rintro e w' ⟨rfl, hw'⟩; obtain rfl := hw'.symm))
                  exact bodyPost_ret (results_two (by exact Tryz.results57) _ _ w.heap.size _ _ (by rfl) (by rfl) (load32 HP4.out)) rfl (Or.inr ⟨⟨_, _, rfl⟩, HB4.out⟩)
                | cons x rr =>
                  have hk := HLk.out
                  rw [hl] at hk
                  obtain ⟨y1, _, y3⟩ := hk.at
                  have hxm := HRk.out x (by rw [hl]; simp)
                  have HC3 := hideIt y3
                  have HXM := hideIt hxm
                  have y' : (x : Int) < 320 := by omega
                  have kn : ((x : Int) != 65535) = true := by rw [bne_iff_ne]; omega
                  have kq : ((x : Int) == 65535) = false := by rw [beq_eq_false_iff_ne]; omega
                  have eb := HMx.out.am.bas y1
                  have en1 := HMx.out.am.nxt y1
                  have HEx := hideIt (end_walk HMx.out.am y1)
                  have xt := (HI.out.tr.mem cr (d := x) (by rw [hl]; simp)).2.1
                  have HXT := hideIt xt
                  clear hl hk y3 hxm xt
                  rw [show hOr (x :: rr) 65535 = (x : Int) from rfl]
                  by_cases hbx : (s.hd x).bas ≤ (a : Int)
                  · generalize hex : IntKind.u64.wrap ((s.hd x).bas + (s.hd x).siz) = ex at *
                    by_cases hax : (a : Int) < ex
                    · go_wp2_with (go_at_call 47; refine HEx.out.mono ?_; rintro e w5 ⟨rfl, hw5⟩; have hb5 : Below wr.heap.size wr w5 := hw5.symm ▸ below_d wr; have HB5 := hideIt (Below.thr HBw.out hb5); clear hw5 hb5)
                      go_roundg (B + 1 - r x)
                      case measure =>
                        have := HXM.out
                        rw [HGK.out]
                        omega
                      case rel => exact ⟨x, y1, HXT.out, rfl, rfl, HB5.out⟩
                    · have hax' : decide ((a : Int) < ex) = false := decide_eq_false hax
                      clear hax
                      go_wp2_with (go_at_call 47; refine HEx.out.mono ?_; rintro e w5 ⟨rfl, hw5⟩; have hb5 : Below wr.heap.size wr w5 := hw5.symm ▸ below_d wr; have en2 := (hb5.cell (p := ⟨A, x * 8 + 5, none⟩) (cell_lt en1)).trans en1; have HB5 := hideIt (Below.thr HBz.out hb5); clear hw5 hb5)
                      rw [HC3.out]
                      go_roundg rr.length
                      case measure => rw [HGM.out, List.length_cons]; omega
                      case rel => exact ⟨l1 ++ [x], rr, by rw [HLL.out]; simp, rfl, rfl, rfl, HB5.out⟩
                  · have hbx' : decide ((s.hd x).bas ≤ (a : Int)) = false := decide_eq_false hbx
                    clear hbx
                    go_wp2_with (first | (go_at_call 124; refine (refOf_walk HMx.out.am c1).mono ?_; rintro e w4 ⟨rfl, hb4⟩; have hz4 := (hb4.block w.heap.size (heap_lt HZx.out)).trans HZx.out; obtain ⟨x0, x1, f0, f1⟩ := two_cells hz4; have HP4 := hideIt (two_set hz4 (.int .u16 (c : Int)) (.int .u32 (s.hd c).gen)); have HB4 := hideIt (two_below' (Below.thr HBx.out hb4) (Nat.le_refl _) (.int .u16 (c : Int)) (.int .u32 (s.hd c).gen)); clear hb4 hz4) | (go_at_call 45; refine (body_walk A cr.1 cr.2.1 _).mono ?_; rintro e w' ⟨rfl, hw'⟩; obtain rfl := hw'.symm))
                    exact bodyPost_ret (results_two (by exact Tryz.results57) _ _ w.heap.size _ _ (by rfl) (by rfl) (load32 HP4.out)) rfl (Or.inr ⟨⟨_, _, rfl⟩, HB4.out⟩)
          · have t1' : ((s.hd c).typ == 1) = false := by rw [beq_eq_false_iff_ne]; exact t1
            clear t1
            go_wp2_with (first | (go_at_call 124; refine (refOf_walk HMx.out.am c1).mono ?_; rintro e w4 ⟨rfl, hb4⟩; have hz4 := (hb4.block w.heap.size (heap_lt HZx.out)).trans HZx.out; obtain ⟨x0, x1, f0, f1⟩ := two_cells hz4; have HP4 := hideIt (two_set hz4 (.int .u16 (c : Int)) (.int .u32 (s.hd c).gen)); have HB4 := hideIt (two_below' (Below.thr HBx.out hb4) (Nat.le_refl _) (.int .u16 (c : Int)) (.int .u32 (s.hd c).gen)); clear hb4 hz4) | (go_at_call 45; refine (body_walk A cr.1 cr.2.1 _).mono ?_; rintro e w' ⟨rfl, hw'⟩; obtain rfl := hw'.symm))
            exact bodyPost_ret (results_two (by exact Tryz.results57) _ _ w.heap.size _ _ (by rfl) (by rfl) (load32 HP4.out)) rfl (Or.inr ⟨⟨_, _, rfl⟩, HB4.out⟩)
end
end Go.Proofs.Qxb6500847aGreatDoor.Os
