/-
  Decode, exactly: the image of a sound state is read back.
-/
import Derived.Test.Qxb6500847aGreatDoorOsDo
import Derived.Test.Qxb6500847aGreatDoorOxDl
import Derived.Test.Qxb6500847aGreatDoorOxDg
namespace Go.Proofs.Qxb6500847aGreatDoor.Os
open Go.RowKit FloorA
set_option maxRecDepth 100000
section
variable {s s1 : Av} {tl : Nat → List Int} {ws : Nat → Nat → Nat → Int} {w : World} {L : Nat → List Nat} {n : Nat}
def DcXP (s : Av) (ws : Nat → Nat → Nat → Int) (w : World) (e : Ending) (w' : World) : Prop :=
  Below w.heap.size w w' ∧ ∃ A rb sb s2 tl2 ws2 L n, e = .returned (.tuple #[.pointer (some ⟨A, 0, none⟩), .nilIface]) ∧ Ms w' A rb sb s2 tl2 ws2 ∧ IV s2 tl2 L n ∧ IX s2 tl2 L n ∧ Wr ws2 ∧ ob s2 ws2 = ob s ws ∧ Shw 320 s s2 ws ws2 ∧ ∀ b, Tz A rb sb b → w.heap.size ≤ b
theorem lsD_lt (s : Av) (fl : Int) {y : Nat} : ∀ d i, i ≤ y → y < i + d → lis s fl y = false → lsD s fl i d < d
  | 0, i, h1, h2, _ => by omega
  | d + 1, i, h1, h2, hl => by
    have e := lsD_le s fl d (i + 1)
    show (if lis s fl i then 1 else 0) + lsD s fl (i + 1) d < d + 1
    by_cases q : i = y
    · subst q
      rw [hl]
      simp
      omega
    · have := lsD_lt s fl d (i + 1) (by omega) (by omega) hl
      split <;> omega
/-- All generations at the floor: places and counters too. -/
structure Fx (k fl : Nat) (s1 : Av) : Prop where
  f0 : F0 k fl s1
  gm : Gm0 s1
  ct : Ct0 s1 tl0
  one : ∀ i, k ≤ i → i < 320 → (s1.hd i).gen = 1
theorem Fx.start {rb sb : Nat → Nat} (h : Fresh s1 rb sb 320) (fl : Nat) : Fx 0 fl s1 := ⟨F0.start h fl, h.gm0, h.ct0, fun i _ hi => by rw [h.hd i hi]; rfl⟩
theorem Fx.step {k fl : Nat} (h : Fx k fl s1) (hk : k < 320) (f1 : 1 ≤ fl) (f2 : fl < 4294967296) : Fx (k + 1) fl (sfS s1 k (fl : Int)) :=
  ⟨h.f0.step hk f1 f2, h.gm.sf hk (h.f0.up k (Nat.le_refl _) hk), h.ct.sf hk (h.f0.typ k hk) (by rw [h.one k (Nat.le_refl _) hk]; decide) _, fun i h1 h2 => by rw [sf_hd, if_neg (by omega)]; exact h.one i (by omega) h2⟩
theorem Fx.dx {fl : Nat} (h : Fx 320 fl s1) : Dx 0 fl s ws s1 tl0 (fun _ _ _ => 0) := ⟨h.f0.de, h.gm, h.ct, fun _ hi => absurd hi (Nat.not_lt_zero _)⟩
set_option maxHeartbeats 16000000 in
theorem Decode_x {g cap : Nat} (hI : IV s tl L n) (hX : IX s tl L n) (hW : Wr ws) (hb : BytesAt w g 0 (imgB s ws)) (hcap : (imgB s ws).length ≤ cap) (_hcap2 : cap ≤ maxLen) (hg : g < w.heap.size) (hK : Kd w) (kl : 1 < w.heap.size) :
    Calls Tryz.prog 29 #[.slice (some ⟨g, 0, none⟩) (imgB s ws).length cap] w (DcXP s ws w) := by
  obtain ⟨fg, hF, fg1, fg2, hle, hN, hsm, hc320⟩ := bodN_nums hI hW
  have hbl := bodN_small hI hW
  have hlen : (imgB s ws).length = (eN (bodN s ws)).length + 8 := by unfold imgB; rw [List.length_append, dbytes_length]
  have hb1 : BytesAt w g 0 (eN (bodN s ws)) := by
    have := bytes_part (a := []) (b := eN (bodN s ws)) (c := dbytes 8 (dig (eN (bodN s ws)))) (by rw [List.nil_append]; exact hb)
    exact this
  have hb2 : BytesAt w g (eN (bodN s ws)).length (dbytes 8 (dig (eN (bodN s ws)))) := by
    have := bytes_part (a := eN (bodN s ws)) (b := dbytes 8 (dig (eN (bodN s ws)))) (c := []) (by rw [List.append_nil]; exact hb)
    rw [Nat.zero_add] at this
    exact this
  have hdg := dig_range (eN (bodN s ws))
  rw [hlen] at hcap ⊢
  have HRS : Hid (∀ w1 A, Below w.heap.size w w1 → Rn w1.heap.size A g cap (bodN s ws) (bodN s ws) (w1.alloc (.cells (decC Tryz.zeroCells229 g (eN (bodN s ws)).length cap A) 229))) := fun w1 A hbw => rn_start (Nat.lt_of_lt_of_le hg hbw.size) (fun i hi => by rw [hbw.cell (p := ⟨g, 0 + i, none⟩) hg]; exact hb1 i hi) hsm hbl (Nat.le_trans (Nat.le_add_right _ _) hcap)
  have HRD := hideIt (readDigest_any g (eN (bodN s ws)).length (cap - (eN (bodN s ws)).length) (dig (eN (bodN s ws))) w hdg.1 hdg.2 hb2)
  have HDG := hideIt (dig_walk g 0 (eN (bodN s ws)).length cap (eN (bodN s ws)) w rfl (Nat.le_trans hbl (by unfold big; decide)) hb1)
  have HI := hideIt hI
  have HXx := hideIt hX
  obtain ⟨fx, fx3, efx⟩ := flG_mem s 320 (Nat.le_refl _)
  have HFx : Hid (∃ y, y < 320 ∧ (s.hd y).gen = (fg : Int)) := ⟨fx, fx3, by rw [← efx]; exact hF⟩
  clear fx3 efx
  have HW : Hid (Wr ws) := hW
  have HK : Hid (Kd w) := hK
  have HN := hideIt hN
  have HLE : Hid (∀ x, x < 320 → (fg : Int) ≤ (s.hd x).gen) := hle
  have HFG := hideIt (And.intro fg1 (And.intro fg2 hc320))
  have HG := hideIt hg
  have HKL := hideIt kl
  generalize hbd : eN (bodN s ws) = bd at *
  generalize hbdl : bd.length = l at *
  have HEL : Hid ((eN (bodN s ws)).length = l) := (congrArg List.length hbd).trans hbdl
  obtain ⟨c1, c2, c3, c4, c5, c6⟩ := dec_ar hcap hbl
  clear hI hX hW hb hcap hK hF hN hle hsm hbl hlen hb1 hb2 hdg fg1 fg2 hc320 hbd hbdl hg kl
  go_enter Tryz.func29, Tryz.ntmps29
  go_wp2_with fail
  go_at_call 101
  refine HRD.out.mono ?_
  rintro e w' ⟨rfl, hw'⟩
  obtain rfl := hw'.symm
  clear hw'
  go_wp2_with fail
  go_at_call 102
  refine HDG.out.mono ?_
  rintro e w' ⟨rfl, hw'⟩
  obtain rfl := hw'.symm
  clear hw'
  go_wp2_with fail
  go_at_call 11
  refine (New_walk _).mono ?_
  rintro e w1 ⟨A, rb, sb, s1, rfl, hbw, hup, hfr, hM⟩
  have HBw := hideIt hbw
  have HUp := hideIt hup
  have HFr := hideIt hfr
  have HM := hideIt hM
  clear hbw hup hfr hM HRD HDG
  have hB2 := Below.thr HBw.out (alloc_below (w := w1) (.cells (decC Tryz.zeroCells229 g l cap A) 229))
  have hM2 := HM.out.below (alloc_below (w := w1) (.cells (decC Tryz.zeroCells229 g l cap A) 229))
  have hR2 : Rn w1.heap.size A g cap (bodN s ws) (1 :: fg :: lsD s (fg : Int) 0 320 :: lsF s ws (fg : Int) 0 0 320) (w1.alloc (.cells (decC Tryz.zeroCells229 g l cap A) 229)) := (congrArg (fun r => Rn w1.heap.size A g cap (bodN s ws) r (w1.alloc (.cells (decC Tryz.zeroCells229 g l cap A) 229))) HN.out).mp (HRS.out w1 A HBw.out)
  have HDn := hideIt (And.intro HBw.out.size (And.intro (show ¬ Tz A rb sb w1.heap.size from fun q => Nat.lt_irrefl _ (HM.out.tzlt _ q)) (show w1.heap.size < (w1.alloc (.cells (decC Tryz.zeroCells229 g l cap A) 229)).heap.size by simp)))
  unfold decC at hB2 hM2 hR2 HDn
  have HB2 := hideIt hB2
  have HM2 := hideIt hM2
  have HR2 := hideIt hR2
  clear hB2 hM2 hR2 HRS HM HBw
  go_wp2_with fail
  go_at_call 103
  generalize w1.alloc (.cells ((((Tryz.zeroCells229.setIfInBounds 0 (.slice (some ⟨g, 0, none⟩) l cap)).setIfInBounds 1 (.int .i64 0)).setIfInBounds 2 (.pointer none)).setIfInBounds 3 (.pointer (some ⟨A, 0, none⟩))) 229) = w2 at *
  generalize w1.heap.size = D at *
  generalize hc0 : lsD s (fg : Int) 0 320 = c0 at *
  have HC0 : Hid (lsD s (fg : Int) 0 320 = c0) := hc0
  clear hc0
  have HXD : Hid (∀ b, b = D → w.heap.size ≤ b) := fun b hb => by rw [hb]; exact HDn.out.1
  refine (num_x HR2.out _ _ (by decide) (by decide)).mono ?_
  rintro e w3 ⟨rfl, hx3, r3⟩
  have HB3 := hideIt (below_extT HB2.out hx3 HXD.out HB2.out.size)
  have HM3 := hideIt (HM2.out.ext hx3 (fun b hb q => HDn.out.2.1 (by rw [← q]; exact hb)))
  clear hx3 HB2 HM2 HR2
  have kv : (((1 : Nat) : Int) != 1) = false := rfl
  have herr := r3.err
  obtain ⟨p3, hp3, _⟩ := r3.pos
  have HR3 := hideIt r3
  clear r3
  go_wp2_with fail
  go_at_call 103
  have hfgb : (fg : Int) ≤ 4294967295 := by have := HFG.out.2.1; omega
  refine (num_x HR3.out _ _ (by decide) hfgb).mono ?_
  rintro e w4 ⟨rfl, hx4, r3⟩
  have HB4 := hideIt (below_extT HB3.out hx4 HXD.out HB3.out.size)
  have HM4 := hideIt (HM3.out.ext hx4 (fun b hb q => HDn.out.2.1 (by rw [← q]; exact hb)))
  clear hx4 HB3 HM3 HR3 herr hp3 kv hfgb
  generalize fg = x at *
  have fm : (x : Int) % 4294967296 = (x : Int) := dec_mod HFG.out.2.1
  have fl1 : decide ((x : Int) < 1) = false := dec_lt1 HFG.out.1
  have herr := r3.err
  have HR4 := hideIt r3
  clear r3
  go_wp2_with fail
  go_at_call 103
  have hc0b : (c0 : Int) ≤ 320 := by have := HFG.out.2.2; omega
  refine (num_x HR4.out _ _ (by decide) hc0b).mono ?_
  rintro e w5 ⟨rfl, hx5, r3⟩
  have HB5 := hideIt (below_extT HB4.out hx5 HXD.out HB4.out.size)
  have HM5 := hideIt (HM4.out.ext hx5 (fun b hb q => HDn.out.2.1 (by rw [← q]; exact hb)))
  clear hx5 HB4 HM4 HR4 herr fl1
  have herr := r3.err
  have HR5 := hideIt r3
  clear r3
  have HTD : Hid (∀ b, Tz A rb sb b → w.heap.size ≤ b) := HUp.out
  have HNG : Hid (¬ Tz A rb sb g) := fun q => Nat.lt_irrefl _ (Nat.lt_of_lt_of_le HG.out (HUp.out g q))
  have HXT : Hid (∀ b, b = D ∨ Tz A rb sb b → w.heap.size ≤ b) := fun b hb => hb.elim (HXD.out b) (HUp.out b)
  go_wp2_with fail
  clear herr
  go_loopw [111] (fun v wr => ∃ (k : Nat) (s2 : Av), k ≤ 320 ∧ v = .int .i64 (k : Int) ∧ Below w.heap.size w wr ∧ Ms wr A rb sb s2 tl0 (fun _ _ _ => 0) ∧ Fx k x s2 ∧ Rn D A g cap (bodN s ws) (lsF s ws (x : Int) 0 0 320) wr) (fun i _ => 320 - (intOf i).toNat)
  case atStart => exact ⟨0, s1, by omega, rfl, HB5.out, HM5.out, Fx.start HFr.out x, HR5.out⟩
  case round =>
    obtain ⟨k, s2, hk, rfl, hbw, hM, hF, hR⟩ := hrel
    have har := hR.ar
    have HBw := hideIt hbw
    have HMr := hideIt hM
    have HFr2 := hideIt hF
    have HRr := hideIt hR
    clear hbw hM hF hR
    by_cases hlt : k < 320
    · have hlt' : (k : Int) < 320 := by omega
      have ck : (k : Int) % 65536 = (k : Int) := by omega
      have HSF := hideIt (setFreeGen_walk HMr.out HFr2.out.f0.iv.ge.wd hlt x)
      go_wp2_with fail
      go_at_call 105
      refine HSF.out.mono ?_
      rintro e w6 ⟨rfl, hM6, hE6⟩
      have HM6 := hideIt hM6
      have HB6 := hideIt (below_extT HBw.out hE6 HTD.out HBw.out.size)
      have HR6 := hideIt (HRr.out.ext hE6 HDn.out.2.1 HNG.out)
      have HF6 := hideIt (HFr2.out.step hlt HFG.out.1 HFG.out.2.1)
      clear hM6 hE6 har
      go_wp2_with fail
      exact ⟨⟨k + 1, _, by omega, by go_num, HB6.out, HM6.out, HF6.out, HR6.out⟩, by simp [intOf]; omega⟩
    · have HDe := hideIt (Fx.dx (s := s) (ws := ws) (show Fx 320 x s2 from by
        have : k = 320 := by omega
        rw [← this]
        exact HFr2.out))
      have hnl : ¬ (k : Int) < 320 := by omega
      clear har hk hlt HB5 HM5 HR5
      go_wp2_with fail
      clear hnl
      go_loopw [11, 13, 14] (fun v11 v13 v14 wr => ∃ (k : Nat) (s2 : Av) (tl2 : Nat → List Int) (ws2 : Nat → Nat → Nat → Int) (q : Bool), k ≤ 320 ∧ v11 = .int .u64 ((lsD s (x : Int) k (320 - k) : Nat) : Int) ∧ v13 = .int .i64 (k : Int) ∧ v14 = .bool q ∧ Below w.heap.size w wr ∧ Ms wr A rb sb s2 tl2 ws2 ∧ Dx k x s ws s2 tl2 ws2 ∧ (c0 < 320 → q = true) ∧ (q = false → ∀ y, y < k → (s.hd y).gen ≠ (x : Int)) ∧ Rn D A g cap (bodN s ws) (lsF s ws (x : Int) k k (320 - k)) wr) (fun v11 _ _ _ => (intOf v11).toNat)
      case atStart => exact ⟨0, _, _, _, _, by omega, by rw [HC0.out], rfl, rfl, HBw.out, HMr.out, HDe.out, fun q => by first | exact decide_eq_true (by omega) | simp; omega, fun _ y hy => absurd hy (Nat.not_lt_zero _), HRr.out⟩
      case round =>
        clear HBw HMr HFr2 HRr HDe
        obtain ⟨k, s2, tl2, ws2, q, hk, rfl, rfl, rfl, hbw, hM, hDe, hq1, hq2, hR⟩ := hrel
        have HQ1 : Hid (c0 < 320 → q = true) := hq1
        have HQ2 : Hid (q = false → ∀ y, y < k → (s.hd y).gen ≠ (x : Int)) := hq2
        clear hq1 hq2
        have HBw := hideIt hbw
        have HMr := hideIt hM
        have HDe := hideIt hDe
        have HRr := hideIt hR
        have HKr : Hid (Kd wr) := HK.out.below hbw HKL.out
        have HKD : Hid (1 ≠ D) := fun q => Nat.lt_irrefl _ (Nat.lt_of_lt_of_le HKL.out (by rw [q]; exact HDn.out.1))
        have HKT : Hid (¬ Tz A rb sb 1) := fun q => Nat.lt_irrefl _ (Nat.lt_of_lt_of_le HKL.out (HUp.out _ q))
        clear hbw hM hDe hR
        by_cases hd : lsD s (x : Int) k (320 - k) = 0
        · obtain ⟨hn1, hn2⟩ := lsF_none (s := s) (ws := ws) (x : Int) k (320 - k) k hd
          have HRe : Hid (Rn D A g cap (bodN s ws) [] wr) := by rw [← hn1]; exact HRr.out
          have HDl := hideIt (HDe.out.skip hk (Nat.le_refl 320) (fun j h1 h2 => hn2 j h1 (by omega)))
          have hps : wr.cell? ⟨D, 1, none⟩ = some (.int .i64 (l : Int)) := by
            obtain ⟨pre, e1, r⟩ := HRe.out.rd
            rw [List.append_nil] at e1
            have := r.pos
            rw [← e1, HEL.out] at this
            exact this
          rw [hd]
          have herr := HRe.out.err
          have HNL : Hid (∀ y, k ≤ y → y < k + (320 - k) → lis s (x : Int) y = false) := hn2
          clear hn1 hn2 HDe HRr HKD HKT
          cases q
          · exfalso
            obtain ⟨y, hy, ey⟩ := HFx.out
            have h0 : ¬ c0 < 320 := fun q => absurd (HQ1.out q) (by decide)
            rcases Nat.lt_or_ge y k with q | q
            · exact HQ2.out rfl y q ey
            · refine h0 ?_
              have hl : lis s (x : Int) y = false := HNL.out y q (by omega)
              rw [← HC0.out]
              exact lsD_lt s (x : Int) 320 0 (Nat.zero_le _) (by omega) hl
          · obtain ⟨⟨r, hP⟩, hrt⟩ := HDl.out.de.pt HI.out
            have HRo := hideIt (rooted_walk HRe.out HMr.out hP)
            have HLk := hideIt (link_x HRe.out HMr.out HDl.out.de.iv hP HDl.out.gm HDl.out.ct (HDl.out.geo HXx.out HI.out) hrt HDn.out.2.1 HNG.out)
            clear hP hrt
            go_wp2_with fail
            go_at_call 107
            refine HRo.out.mono ?_
            rintro e w' ⟨rfl, hw'⟩
            obtain rfl := hw'.symm
            clear hw' HRo
            go_wp2_with fail
            go_at_call 108
            refine HLk.out.mono ?_
            rintro e w6 ⟨rfl, hx6, hh⟩
            have HB3 := hideIt (below_extT HBw.out hx6 HXT.out HBw.out.size)
            clear hx6 HLk herr hps
            obtain ⟨s3, L3, n3, hM3, hI3, hX3, hH3, hR3⟩ := hh
            · have herr := hR3.err
              have har := hR3.ar
              have HE : Hid (DcXP s ws w (.returned (.tuple #[.pointer (some ⟨A, 0, none⟩), .nilIface])) w6) := ⟨HB3.out, A, rb, sb, s3, tl2, ws2, L3, n3, rfl, hM3, hI3, hX3, HDl.out.de.wr, link_ob HDl.out hH3 hX3.gm HXx.out HI.out, hH3.shw HDl.out.de.shw, HUp.out⟩
              clear hM3 hI3 hX3 hH3 hR3
              go_wp2_with fail
              go_ret2
              exact HE.out
        · obtain ⟨j, hj1, hj2, hj3, hj4, hj5, hj6⟩ := lsF_next (s := s) (ws := ws) (x : Int) k (320 - k) k hd
          have hj : j < 320 := by omega
          rw [show k + (320 - k) - (j + 1) = 320 - (j + 1) by omega] at hj5 hj6
          obtain ⟨gN, eg, _, _, _⟩ := HI.out.ge.gen j hj
          obtain ⟨tN, et, _, _⟩ := HI.out.ge.typ j hj
          have hle := HLE.out j hj
          rw [hj5, eg, et] at HRr
          have HEt := hideIt (entry_x (age := (((gN : Nat) : Int) - (x : Int)).toNat) (tN := tN) HRr.out HMr.out HDe.out HI.out HXx.out HW.out HKr.out hj1 hj eg (by omega) et hj3 hj4 HDn.out.2.1 HNG.out HKD.out HKT.out)
          have HAge : Hid ((((gN : Nat) : Int) - (x : Int)).toNat ≠ 0 → ∀ q : Bool, (c0 < 320 → q = true) → (q = false → ∀ y, y < k → (s.hd y).gen ≠ (x : Int)) → q = false → ∀ y, y < j + 1 → (s.hd y).gen ≠ (x : Int)) := fun ha q h1 h2 hq y hy => by
            rcases Nat.lt_or_ge y k with z | z
            · exact h2 hq y z
            · by_cases z2 : y = j
              · rw [z2, eg]; omega
              · exfalso
                have hl := hj4 y z (by omega)
                have h3 := lsD_lt s (x : Int) 320 0 (Nat.zero_le _) (by omega) hl
                rw [HC0.out] at h3
                rw [h1 h3] at hq
                cases hq
          generalize (((gN : Nat) : Int) - (x : Int)).toNat = age at *
          rw [hj6]
          generalize hc1 : lsD s (x : Int) (j + 1) (320 - (j + 1)) = c1 at *
          have HC1 : Hid (lsD s (x : Int) (j + 1) (320 - (j + 1)) = c1) := hc1
          have c1le : c1 ≤ 320 := by
            have := lsD_le s (x : Int) (320 - (j + 1)) (j + 1)
            rw [hc1] at this
            exact Nat.le_trans this (Nat.sub_le _ _)
          obtain ⟨a1, a2, a3, a4⟩ := dec_ar2 c1le hj
          clear hc1 hj3 hj4 hj5 hj6 hle eg et hd hk HRr HMr HDe
          go_wp2_with fail
          go_at_call 106
          refine HEt.out.mono ?_
          rintro e w6 ⟨hx6, hR6, rfl, s6, tl6, ws6, hM6, hD6⟩
          have HB3 := hideIt (below_extT HBw.out hx6 HXT.out HBw.out.size)
          clear hx6 HEt
          · have herr := hR6.err
            have HR6 := hideIt hR6
            have HM6 := hideIt hM6
            have HD6 := hideIt hD6
            clear hR6 hM6 hD6
            obtain ⟨b0, hb0⟩ : ∃ b0 : Bool, ((age : Int) == 0) = b0 := ⟨_, rfl⟩
            have HAg2 : Hid (b0 = false → age ≠ 0) := fun e z => by
              rw [e, z] at hb0
              cases hb0
            have HA3 := hideIt (dec_ar3 c1le)
            clear a1 a2 a3 a4 c1le
            cases q
            · go_wp2_with fail
              go_roundw
              case rel => exact ⟨j + 1, s6, tl6, ws6, _, by omega, by rw [HC1.out]; exact congrArg (Value.int .u64) HA3.out, rfl, rfl, HB3.out, HM6.out, HD6.out, fun h => absurd (HQ1.out h) (by decide), fun e => HAge.out (HAg2.out e) false HQ1.out (fun _ => HQ2.out trivial) rfl, HR6.out⟩
              case measure => exact dec_ms HA3.out
            · go_wp2_with fail
              go_roundw
              case rel => exact ⟨j + 1, s6, tl6, ws6, _, by omega, by rw [HC1.out]; exact congrArg (Value.int .u64) HA3.out, rfl, rfl, HB3.out, HM6.out, HD6.out, fun _ => rfl, fun e => absurd e (by decide), HR6.out⟩
              case measure => exact dec_ms HA3.out
end
end Go.Proofs.Qxb6500847aGreatDoor.Os
