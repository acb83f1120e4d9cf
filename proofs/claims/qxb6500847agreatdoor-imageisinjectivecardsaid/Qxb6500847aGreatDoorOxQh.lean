/-
  Locate, exactly.
-/
import Derived.Test.Qxb6500847aGreatDoorOxQk
import Derived.Test.Qxb6500847aGreatDoorOsQh
namespace Go.Proofs.Qxb6500847aGreatDoor.Os
open Go.RowKit FloorA
set_option maxRecDepth 100000
section
variable {A : Nat} {rb sb : Nat → Nat} {s : Av} {tl : Nat → List Int} {ws : Nat → Nat → Nat → Int} {w : World} {L : Nat → List Nat} {n : Nat}
def LcXP (X : Rs) (w : World) (e : Ending) (w' : World) : Prop :=
  (∃ v c, X = bad c ∧ e = .returned (.tuple #[.agg #[.int .u16 0, .int .u32 0], v]) ∧ Refu w v w' c) ∨ ((∃ (x : Nat) (y : Int), X = ⟨0, [(x, y)], []⟩ ∧ e = .returned (.tuple #[.agg #[.int .u16 (x : Int), .int .u32 y], .nilIface])) ∧ Below w.heap.size w w')
set_option maxHeartbeats 8000000 in
theorem Locate_x (h : Ms w A rb sb s tl ws) (hI : IV s tl L n) (hX : IX s tl L n) (a : Nat) :
    Calls Tryz.prog 57 #[.pointer (some ⟨A, 0, none⟩), .int .u64 (a : Int)] w (LcXP (locX (ob s ws) (a : Int)) w) := by
  have bB := alloc_below (w := w) (.cells #[.int .u16 0, .int .u32 0] 32)
  have hzc : (w.alloc (.cells #[.int .u16 0, .int .u32 0] 32)).heap[w.heap.size]? = some (.cells #[.int .u16 0, .int .u32 0] 32 (0, 0)) := heap_new _ _
  have HM := hideIt (h.below bB)
  have HB := hideIt bB
  have HI := hideIt hI
  have HXx := hideIt hX
  clear h hI bB hX
  by_cases h1 : 281474976710656 ≤ a
  · have c1 : (a : Int) ≥ 281474976710656 := by omega
    have HR0 := hideIt (locX_rng (a := (a : Int)) (ob s ws) (by omega))
    go_enter Tryz.func57, Tryz.ntmps57
    go_wp2_with (go_at_call 123; refine (refuse_walk _ _ _ _ _ _).mono ?_; rintro e w2 ⟨v, rfl, hv, hb⟩; obtain ⟨hz2, hp2, hp3⟩ := refu_two (Nat.le_refl _) HB.out hzc hv (by omega) hb; obtain ⟨x0, x1, f0, f1⟩ := two_cells hz2; have HP2 := hideIt hp2; have HP3 := hideIt hp3; clear hv hb hp2 hp3 hz2)
    exact bodyPost_ret (results_two (by exact Tryz.results57) _ _ w.heap.size _ v (by rfl) (by rfl) (load32 HP2.out)) rfl (Or.inl ⟨v, _, HR0.out, rfl, HP3.out⟩)
  · have c1 : ¬ (a : Int) ≥ 281474976710656 := by omega
    have hna : ¬ (281474976710656 : Int) ≤ (a : Int) := by omega
    have HNA := hideIt hna
    have HUS := hideIt (upTo_spec HI.out.ro.rts (a : Int))
    clear hna
    have HRA := hideIt (rootAbove_walk HM.out.am HI.out.ro.rts (a : Int))
    have n64 := HI.out.ro.rts.n64
    have hp := upTo_le s n (a : Int)
    generalize hpe : upTo s n (a : Int) = p at *
    clear hpe
    go_enter Tryz.func57, Tryz.ntmps57
    go_wp2_with fail
    go_at_call 126
    refine HRA.out.mono ?_
    rintro e w1 ⟨rfl, hb1⟩
    have HB1 := hideIt (Below.thr HB.out hb1)
    have HM1 := hideIt (HM.out.below hb1)
    have HZ1 : Hid (w1.heap[w.heap.size]? = some (.cells #[.int .u16 0, .int .u32 0] 32 (0, 0))) := (hb1.block w.heap.size (heap_lt hzc)).trans hzc
    clear hb1 hzc
    have hcase : (p = 0 ∨ ∃ d : Nat, 0 < p ∧ d < 320 ∧ s.rts (p - 1) = (d : Int) ∧ IsReg s d) := by
      by_cases hp0 : p = 0
      · exact Or.inl hp0
      · obtain ⟨d, hd, ed⟩ := HI.out.ro.rts.lt (p - 1) (by omega)
        exact Or.inr ⟨d, by omega, hd, ed, (HI.out.ro.reg (p - 1) d (by omega) ed).1⟩
    rcases hcase with rfl | ⟨d, hp0, hd, ed, hreg⟩
    · have HR0 := hideIt (locX_none (ws := ws) (a := (a : Int)) HXx.out HI.out (by have := HNA.out; omega) (fun c e q => by
        obtain ⟨j, hj, ej⟩ := HI.out.ro.all c q.1 q.2.1 e
        have h2 := HUS.out.2 j (Nat.zero_le _) hj
        have e1 : rbas s j = (s.hd c).bas := by unfold rbas; rw [ej]; rfl
        have := q.2.2.1
        omega))
      go_wp2_with fail
      go_region
      all_goals
        have HBq := hideIt (Below.thr HB1.out (below_d w1))
        have HZq : Hid (w1.drew.heap[w.heap.size]? = some (.cells #[.int .u16 0, .int .u32 0] 32 (0, 0))) := HZ1.out
        generalize w1.drew = wq at *
        go_wp2_with (go_at_call 123; refine (refuse_walk _ _ _ _ _ _).mono ?_; rintro e w2 ⟨v, rfl, hv, hb⟩; obtain ⟨hz2, hp2, hp3⟩ := refu_two (Nat.le_refl _) HBq.out HZq.out hv (by omega) hb; obtain ⟨x0, x1, f0, f1⟩ := two_cells hz2; have HP2 := hideIt hp2; have HP3 := hideIt hp3; clear hv hb hp2 hp3 hz2)
        exact bodyPost_ret (results_two (by exact Tryz.results57) _ _ w.heap.size _ v (by rfl) (by rfl) (load32 HP2.out)) rfl (Or.inl ⟨v, _, HR0.out, rfl, HP3.out⟩)
    · have e1 := HM1.out.am.rtc (i := p - 1) (by omega)
      rw [ed] at e1
      have HE1 := hideIt e1
      have k0 : ((p : Int) == 0) = false := by rw [beq_eq_false_iff_ne]; omega
      have l2 : wrap64 ((p : Int) - 1) = (p : Int) - 1 := by unfold wrap64; omega
      have l3 : ((p : Int) - 1).toNat = p - 1 := by omega
      have l4 : (0 : Int) ≤ (p : Int) - 1 := by omega
      have l5 : (p : Int) - 1 < 64 := by omega
      have d' : (d : Int) < 320 := by omega
      have HE := hideIt (fun q => end_walk (w := w1.drewN q) (A := A) (s := s) ⟨HM1.out.am.cell, HM1.out.am.free⟩ hd)
      have HReg := hideIt hreg
      have rr := HI.out.ro.reg (p - 1) d (by omega) ed
      have eb1 : rbas s (p - 1) = (s.hd d).bas := by unfold rbas; rw [ed]; rfl
      have hb1 := HUS.out.1 (p - 1) (by omega)
      have hw1 : IntKind.u64.wrap ((s.hd d).bas + (s.hd d).siz) = (s.hd d).bas + (s.hd d).siz := u64_same (by omega) (by omega)
      have HHd : Hid ((a : Int) < IntKind.u64.wrap ((s.hd d).bas + (s.hd d).siz) → Hol s (a : Int) d) := fun q => ⟨hd, by rw [HReg.out.2.2]; decide, by omega, by rw [hw1] at q; omega⟩
      have HNo : Hid (IntKind.u64.wrap ((s.hd d).bas + (s.hd d).siz) ≤ (a : Int) → locX (ob s ws) (a : Int) = bad 16) := fun q => locX_none HXx.out HI.out (by have := HNA.out; omega) (fun c e k => by
        rw [hw1] at q
        obtain ⟨j, hj, ej⟩ := HI.out.ro.all c k.1 k.2.1 e
        have e1 : rbas s j = (s.hd c).bas := by unfold rbas; rw [ej]; rfl
        have h3 := k.2.2.1
        have h4 := k.2.2.2
        rcases Nat.lt_or_ge j p with z | z
        · by_cases z2 : j = p - 1
          · subst z2
            have : c = d := by omega
            subst this
            omega
          · have := HXx.out.gm.rts j (p - 1) c d (by omega) (by omega) ej ed
            omega
        · have h2 := HUS.out.2 j z hj
          omega)
      clear ed hreg rr eb1 hb1 hw1
      generalize IntKind.u64.wrap ((s.hd d).bas + (s.hd d).siz) = en at *
      by_cases hen : en ≤ (a : Int)
      · have HR0 := hideIt (HNo.out hen)
        clear HNo HHd
        go_wp2_with fail
        go_quiet ((go_at_call 47; exact Calls.quiet_of ((HE.out _).mono (fun e w' q => ⟨q.1, 1, q.2⟩))))
        have HBq := hideIt (Below.thr HB1.out (below_dN w1 nq))
        have HZq : Hid ((w1.drewN nq).heap[w.heap.size]? = some (.cells #[.int .u16 0, .int .u32 0] 32 (0, 0))) := HZ1.out
        generalize w1.drewN nq = wq at *
        go_wp2_with (go_at_call 123; refine (refuse_walk _ _ _ _ _ _).mono ?_; rintro e w2 ⟨v, rfl, hv, hb⟩; obtain ⟨hz2, hp2, hp3⟩ := refu_two (Nat.le_refl _) HBq.out HZq.out hv (by omega) hb; obtain ⟨x0, x1, f0, f1⟩ := two_cells hz2; have HP2 := hideIt hp2; have HP3 := hideIt hp3; clear hv hb hp2 hp3 hz2)
        exact bodyPost_ret (results_two (by exact Tryz.results57) _ _ w.heap.size _ v (by rfl) (by rfl) (load32 HP2.out)) rfl (Or.inl ⟨v, _, HR0.out, rfl, HP3.out⟩)
      · have hen' : (a : Int) < en := by omega
        have HH0 := hideIt (HHd.out hen')
        clear hen HNo HHd
        go_wp2_with fail
        go_quiet ((go_at_call 47; exact Calls.quiet_of ((HE.out _).mono (fun e w' q => ⟨q.1, 1, q.2⟩))))
        have HMq := hideIt (HM1.out.below (below_dN w1 nq))
        have HBq := hideIt (Below.thr HB1.out (below_dN w1 nq))
        have HZq : Hid ((w1.drewN nq).heap[w.heap.size]? = some (.cells #[.int .u16 0, .int .u32 0] 32 (0, 0))) := HZ1.out
        have e2 : (w1.drewN nq).cell? ⟨A, 2821 + (p - 1), none⟩ = some (.int .u16 (d : Int)) := HE1.out
        clear e1
        generalize w1.drewN nq = wq at *
        obtain ⟨r, hr⟩ := HI.out.rk
        have HR : Hid (Rk s r) := hr
        obtain ⟨B, hB⟩ := bound_of r 320
        have HBd : Hid (∀ x, x < 320 → r x ≤ B) := hB
        have hdn : decide (en ≤ (a : Int)) = false := decide_eq_false (by omega)
        clear hr hB hen'
        rw [hdn]
        clear hdn
        go_wp2_with fail
        clear e2
        go_loopg [7] (B + 1 - r d) (fun gk v7 wr => ∃ c : Nat, c < 320 ∧ (s.hd c).typ ≠ 0 ∧ Hol s (a : Int) c ∧ v7 = .int .u16 (c : Int) ∧ gk = B + 1 - r c ∧ Below wq.heap.size wq wr)
        case atStart => exact ⟨d, hd, by rw [HReg.out.2.2]; decide, HH0.out, rfl, rfl, Below.refl _ _⟩
        case round =>
          clear HE HE1 HReg l2 l3 l4 l5 k0 d' hd hp0 HH0
          obtain ⟨c, c1, ct, hhol, rfl, hgk, hbw⟩ := hrel
          have HHol := hideIt hhol
          have HFn : Hid ((IsReg s c → ∀ q ∈ L c, ¬ Hol s (a : Int) q) → ∀ w5 : World, Below w.heap.size w w5 → LcXP (locX (ob s ws) (a : Int)) w (.returned (.tuple #[.agg #[.int .u16 (c : Int), .int .u32 (s.hd c).gen], .nilIface])) w5) := fun q w5 hb => Or.inr ⟨⟨c, (s.hd c).gen, locX_ok HXx.out HI.out (by have := HNA.out; omega) HHol.out q, rfl⟩, hb⟩
          clear hhol
          have c' : (c : Int) < 320 := by omega
          have HMx := hideIt (HMq.out.below hbw)
          have HBx := hideIt (Below.thr HBq.out hbw)
          have HZx := hideIt ((hbw.block w.heap.size (heap_lt HZq.out)).trans HZq.out)
          have HBw := hideIt hbw
          have HGK := hideIt hgk
          have et := HMx.out.am.typ c1
          clear hbw hgk
          by_cases t1 : (s.hd c).typ = 1
          · have cr := reg_of HI.out c1 t1
            have HLk := hideIt (HI.out.tr.lk c cr)
            have HRk : Hid (∀ x, x ∈ L c → r c < r x ∧ r x ≤ B) := fun x hx => by
              obtain ⟨x1, x2, x3⟩ := HI.out.tr.mem cr hx
              exact ⟨HR.out x c x1 x2 x3 c1, HBd.out x x1⟩
            have i1 := cr.1
            have i2 := cr.2.1
            have k3 := HMx.out.am.rgc (i := c - 256) (f := 3) (by omega) (by omega)
            have k0 := HMx.out.am.rgc (i := c - 256) (f := 0) (by omega) (by omega)
            simp only [rgC, Nat.add_zero] at k0 k3
            rw [HI.out.tr.fst c cr] at k0
            obtain ⟨fs, hfs⟩ : ∃ q, q = hOr (L c) 65535 := ⟨_, rfl⟩
            rw [← hfs] at k0
            have HFS := hideIt hfs
            clear hfs
            rw [t1] at et
            clear t1
            by_cases htop : (a : Int) ≥ (s.rg (c - 256)).top
            · have HNk : Hid (IsReg s c → ∀ q ∈ L c, ¬ Hol s (a : Int) q) := fun hr q hq k => by
                have b := (HXx.out.gm.chn c hr).1.bounds (HXx.out.pos HI.out hr) q hq
                have := k.2.2.2
                omega
              clear HLk HRk k0
              go_wp2_with (first | (go_at_call 124; refine (refOf_walk HMx.out.am c1).mono ?_; rintro e w4 ⟨rfl, hb4⟩; have hz4 := (hb4.block w.heap.size (heap_lt HZx.out)).trans HZx.out; obtain ⟨x0, x1, f0, f1⟩ := two_cells hz4; have HP4 := hideIt (two_set hz4 (.int .u16 (c : Int)) (.int .u32 (s.hd c).gen)); have HB4 := hideIt (two_below' (Below.thr HBx.out hb4) (Nat.le_refl _) (.int .u16 (c : Int)) (.int .u32 (s.hd c).gen)); clear hb4 hz4) | (go_at_call 45; refine (body_walk A cr.1 cr.2.1 _).mono ?_; rintro e w' ⟨rfl, hw'⟩; obtain rfl := hw'.symm))
              exact bodyPost_ret (results_two (by exact Tryz.results57) _ _ w.heap.size _ _ (by rfl) (by rfl) (load32 HP4.out)) rfl (HFn.out HNk.out _ HB4.out)
            · have htop' : decide ((s.rg (c - 256)).top ≤ (a : Int)) = false := decide_eq_false (by omega)
              clear htop
              go_wp2_with (go_at_call 45; refine (body_walk A i1 i2 _).mono ?_; rintro e w' ⟨rfl, hw'⟩; obtain rfl := hw'.symm)
              clear k0 k3 et
              generalize wr = wy at *
              go_loopg [9, 10] ((L c).length) (fun gm v9 v10 wz => ∃ l1 l2 : List Nat, L c = l1 ++ l2 ∧ (∀ q ∈ l1, ¬ Hol s (a : Int) q) ∧ gm = l2.length ∧ v9 = .int .u16 65535 ∧ v10 = .int .u16 (hOr l2 65535) ∧ Below wy.heap.size wy wz)
              case atStart => exact ⟨[], L c, rfl, fun q hq => absurd hq (by simp), rfl, rfl, by rw [HFS.out], Below.refl _ _⟩
              case round =>
                obtain ⟨l1, l2, hl, hnk, hgm, rfl, rfl, hbz⟩ := hrel
                have HN1 := hideIt hnk
                clear hnk
                have HMx := hideIt (HMx.out.below hbz)
                have HZx := hideIt ((hbz.block w.heap.size (heap_lt HZx.out)).trans HZx.out)
                have HBx := hideIt (Below.thr HBx.out hbz)
                have HBz := hideIt hbz
                have HBw := hideIt (Below.thr HBw.out hbz)
                have HGM := hideIt hgm
                have HLL : Hid (L c = l1 ++ l2) := hl
                clear hbz hgm
                cases l2 with
                | nil =>
                  have HNk : Hid (IsReg s c → ∀ q ∈ L c, ¬ Hol s (a : Int) q) := fun _ q hq => HN1.out q (by rw [hl, List.append_nil] at hq; exact hq)
                  clear hl
                  rw [show hOr [] 65535 = 65535 from rfl]
                  go_wp2_with (first | (go_at_call 124; refine (refOf_walk HMx.out.am c1).mono ?_; rintro e w4 ⟨rfl, hb4⟩; have hz4 := (hb4.block w.heap.size (heap_lt HZx.out)).trans HZx.out; obtain ⟨x0, x1, f0, f1⟩ := two_cells hz4; have HP4 := hideIt (two_set hz4 (.int .u16 (c : Int)) (.int .u32 (s.hd c).gen)); have HB4 := hideIt (two_below' (Below.thr HBx.out hb4) (Nat.le_refl _) (.int .u16 (c : Int)) (.int .u32 (s.hd c).gen)); clear hb4 hz4) | (go_at_call 45; refine (body_walk A cr.1 cr.2.1 _).mono ?_; rintro e w' ⟨rfl, hw'⟩; obtain rfl := hw'.symm))
                  exact bodyPost_ret (results_two (by exact Tryz.results57) _ _ w.heap.size _ _ (by rfl) (by rfl) (load32 HP4.out)) rfl (HFn.out HNk.out _ HB4.out)
                | cons x rr =>
                  have hk := HLk.out
                  rw [hl] at hk
                  obtain ⟨y1, _, y3⟩ := hk.at
                  have hxm := HRk.out x (by rw [hl]; simp)
                  have HC3 := hideIt y3
                  have HXM := hideIt hxm
                  have y' : (x : Int) < 320 := by omega
                  have kn : ((x : Int) != 65535) = true := by rw [bne_iff_ne]; omega
                  have kq : ((x : Int) == 65535) = false := by rw [beq_eq_false_iff_ne]; omega
                  have eb := HMx.out.am.bas y1
                  have en1 := HMx.out.am.nxt y1
                  have HEx := hideIt (end_walk HMx.out.am y1)
                  have xt := (HI.out.tr.mem cr (d := x) (by rw [hl]; simp)).2.1
                  have HXT := hideIt xt
                  have lx := HXx.out.gm.lim x y1 xt
                  have HWx : Hid (IntKind.u64.wrap ((s.hd x).bas + (s.hd x).siz) = (s.hd x).bas + (s.hd x).siz) := u64_same (by omega) (by omega)
                  clear lx
                  clear hl hk y3 hxm xt
                  rw [show hOr (x :: rr) 65535 = (x : Int) from rfl]
                  by_cases hbx : (s.hd x).bas ≤ (a : Int)
                  · have HHx : Hid ((a : Int) < IntKind.u64.wrap ((s.hd x).bas + (s.hd x).siz) → Hol s (a : Int) x) := fun q => ⟨y1, HXT.out, hbx, by rw [HWx.out] at q; exact q⟩
                    have HNx : Hid (¬ (a : Int) < IntKind.u64.wrap ((s.hd x).bas + (s.hd x).siz) → ¬ Hol s (a : Int) x) := fun q k => q (by rw [HWx.out]; exact k.2.2.2)
                    clear HWx
                    generalize hex : IntKind.u64.wrap ((s.hd x).bas + (s.hd x).siz) = ex at *
                    by_cases hax : (a : Int) < ex
                    · go_wp2_with (go_at_call 47; refine HEx.out.mono ?_; rintro e w5 ⟨rfl, hw5⟩; have hb5 : Below wr.heap.size wr w5 := hw5.symm ▸ below_d wr; have HB5 := hideIt (Below.thr HBw.out hb5); clear hw5 hb5)
                      go_roundg (B + 1 - r x)
                      case measure =>
                        have := HXM.out
                        rw [HGK.out]
                        omega
                      case rel => exact ⟨x, y1, HXT.out, HHx.out hax, rfl, rfl, HB5.out⟩
                    · have hax' : decide ((a : Int) < ex) = false := decide_eq_false hax
                      have HN2 := hideIt (HNx.out hax)
                      clear hax
                      go_wp2_with (go_at_call 47; refine HEx.out.mono ?_; rintro e w5 ⟨rfl, hw5⟩; have hb5 : Below wr.heap.size wr w5 := hw5.symm ▸ below_d wr; have en2 := (hb5.cell (p := ⟨A, x * 8 + 5, none⟩) (cell_lt en1)).trans en1; have HB5 := hideIt (Below.thr HBz.out hb5); clear hw5 hb5)
                      rw [HC3.out]
                      go_roundg rr.length
                      case measure => rw [HGM.out, List.length_cons]; omega
                      case rel => exact ⟨l1 ++ [x], rr, by rw [HLL.out]; simp, fun q hq => (List.mem_append.1 hq).elim (HN1.out q) (fun e => by rw [List.mem_singleton.1 e]; exact HN2.out), rfl, rfl, rfl, HB5.out⟩
                  · have hbx' : decide ((s.hd x).bas ≤ (a : Int)) = false := decide_eq_false hbx
                    have HNk : Hid (IsReg s c → ∀ q ∈ L c, ¬ Hol s (a : Int) q) := fun hr q hq => by
                      have hs := (HXx.out.gm.chn c hr).1.sorted (HXx.out.pos HI.out hr)
                      rw [HLL.out] at hq hs
                      rcases List.mem_append.1 hq with z | z
                      · exact HN1.out q z
                      · intro k
                        have h3 := k.2.2.1
                        rcases List.mem_cons.1 z with z2 | z2
                        · subst z2; omega
                        · have h4 := (List.pairwise_cons.1 (List.pairwise_append.1 hs).2.1).1 q z2
                          have h5 := (HXx.out.gm.lim x y1 HXT.out).2.1
                          omega
                    clear hbx
                    go_wp2_with (first | (go_at_call 124; refine (refOf_walk HMx.out.am c1).mono ?_; rintro e w4 ⟨rfl, hb4⟩; have hz4 := (hb4.block w.heap.size (heap_lt HZx.out)).trans HZx.out; obtain ⟨x0, x1, f0, f1⟩ := two_cells hz4; have HP4 := hideIt (two_set hz4 (.int .u16 (c : Int)) (.int .u32 (s.hd c).gen)); have HB4 := hideIt (two_below' (Below.thr HBx.out hb4) (Nat.le_refl _) (.int .u16 (c : Int)) (.int .u32 (s.hd c).gen)); clear hb4 hz4) | (go_at_call 45; refine (body_walk A cr.1 cr.2.1 _).mono ?_; rintro e w' ⟨rfl, hw'⟩; obtain rfl := hw'.symm))
                    exact bodyPost_ret (results_two (by exact Tryz.results57) _ _ w.heap.size _ _ (by rfl) (by rfl) (load32 HP4.out)) rfl (HFn.out HNk.out _ HB4.out)
          · have t1' : ((s.hd c).typ == 1) = false := by rw [beq_eq_false_iff_ne]; exact t1
            have HNk : Hid (IsReg s c → ∀ q ∈ L c, ¬ Hol s (a : Int) q) := fun hr => absurd hr.2.2 t1
            clear t1
            go_wp2_with (first | (go_at_call 124; refine (refOf_walk HMx.out.am c1).mono ?_; rintro e w4 ⟨rfl, hb4⟩; have hz4 := (hb4.block w.heap.size (heap_lt HZx.out)).trans HZx.out; obtain ⟨x0, x1, f0, f1⟩ := two_cells hz4; have HP4 := hideIt (two_set hz4 (.int .u16 (c : Int)) (.int .u32 (s.hd c).gen)); have HB4 := hideIt (two_below' (Below.thr HBx.out hb4) (Nat.le_refl _) (.int .u16 (c : Int)) (.int .u32 (s.hd c).gen)); clear hb4 hz4) | (go_at_call 45; refine (body_walk A cr.1 cr.2.1 _).mono ?_; rintro e w' ⟨rfl, hw'⟩; obtain rfl := hw'.symm))
            exact bodyPost_ret (results_two (by exact Tryz.results57) _ _ w.heap.size _ _ (by rfl) (by rfl) (load32 HP4.out)) rfl (HFn.out HNk.out _ HB4.out)
end
end Go.Proofs.Qxb6500847aGreatDoor.Os
