/-
  Decode: fields, exactly.
-/
import Derived.Test.Qxb6500847aGreatDoorOsDe
namespace Go.Proofs.Qxb6500847aGreatDoor.Os
open Go.RowKit FloorA
set_option maxRecDepth 100000
section
variable {D A g cap : Nat} {N rest : List Nat} {rb sb : Nat → Nat} {s : Av} {tl : Nat → List Int} {ws : Nat → Nat → Nat → Int} {w : World}
def FdXP (D A g cap : Nat) (N rest : List Nat) (rb sb : Nat → Nat) (s : Av) (tl : Nat → List Int) (ws : Nat → Nat → Nat → Int) (t r : Nat) (W : Nat → Int) (w : World) (e : Ending) (w' : World) : Prop :=
  e = .returned (.tuple #[]) ∧ Ext w.heap.size (fun b => b = D ∨ b = rb t) w w' ∧ Rn D A g cap N rest w' ∧ ∃ V, Wq t V ∧ (∀ f, f < nF t → V f = W f) ∧ Ms w' A rb sb s tl (updW ws t r V)
set_option maxHeartbeats 8000000 in
theorem fields_x {i t r : Nat} {W : Nat → Int} (hR : Rn D A g cap N (payN W (nF t) ++ rest) w) (hM : Ms w A rb sb s tl (updW ws t r (fun _ => 0))) (hK : Kd w) (hVd : ∀ f, f < nF t → fOk t f (W f)) (hW : ∀ f, f < nF t → 0 ≤ W f ∧ W f < 18446744073709551616) (nD : ¬ Tz A rb sb D) (ng : ¬ Tz A rb sb g) (hi : i < 320) (t6 : t < 6) (et : (s.hd i).typ = ((t + 2 : Nat) : Int)) (er : (s.hd i).row = (r : Int)) (r1 : r < nR t) :
    Calls Tryz.prog 229 #[.pointer (some ⟨D, 0, none⟩), .int .u16 (i : Int)] w (FdXP D A g cap N rest rb sb s tl ws t r W w) := by
  have har := hR.ar
  have i' : (i : Int) < 320 := by omega
  have HPy := hideIt (payloadOf_walk hM hi t6 et er r1)
  have HM := hideIt hM
  have HWs : Hid (∀ f, f < nF t → 0 ≤ W f ∧ W f < 18446744073709551616) := hW
  have HVd : Hid (∀ f, f < nF t → fOk t f (W f)) := hVd
  have HNz : Hid ((nzC W (nF t) : Int) ≤ (nF t : Int)) := by
    show (nzC W (nF t) : Int) ≤ (nF t : Int)
    have := nzC_le W (nF t)
    omega
  have mS := @meth_store t t6
  have eS := @ent_store t t6
  have m112 := nF_le t
  have HND : Hid (D ≠ rb t ∧ g ≠ rb t) := ⟨fun q => nD (by rw [q]; exact Or.inr ⟨t, t6, Or.inl rfl⟩), fun q => ng (by rw [q]; exact Or.inr ⟨t, t6, Or.inl rfl⟩)⟩
  have HTD : Hid (∀ b, Tz A rb sb b → ¬ b = D) := fun b hb q => nD (by rw [← q]; exact hb)
  have HR : Hid (Rn D A g cap N (nzC W (nF t) :: (pyP W (nF t) ++ rest)) w) := hR
  have hkf : w.cell? ⟨1, (t + 2) * 4 + 3, none⟩ = some (.int .i64 (nF t : Int)) := by
    have := (hK (t + 2) (by omega)).2.2
    rw [nF_k t6] at this
    exact this
  have htc := hM.am.typ hi
  rw [et] at htc
  have k8 : ((t + 2 : Nat) : Int) < 8 := by omega
  have HT6 := hideIt t6
  have HR1 : Hid (r < nR t) := r1
  have hpy : pyP W (nF t) = pyF W 0 0 (nF t) := by
    have := pyF_eq W (nF t) 0
    rw [Nat.zero_add] at this
    rw [← this]
    rfl
  have hnz : nzC W (nF t) = nzF W 0 (nF t) := by
    have := nzF_eq W (nF t) 0
    rw [Nat.zero_add] at this
    rw [← this]
    exact Nat.zero_add _
  have HPY := hideIt (And.intro hpy hnz)
  clear hR hM hK hW hVd nD ng et er r1 t6 hpy hnz
  generalize hk : t + 2 = k at *
  clear hk
  go_enter Tryz.func229, Tryz.ntmps229
  go_wp2_with fail
  go_at_call 119
  refine HPy.out.mono ?_
  rintro e w1 ⟨rfl, hb1⟩
  have HX1 : Hid (Ext w.heap.size (fun b => b = D ∨ b = rb t) w w1) := Ext.of_below hb1 _
  have HM1 := hideIt (HM.out.below hb1)
  have htc1 := (hb1.cell (p := ⟨A, i * 8 + 1, none⟩) (cell_lt htc)).trans htc
  have hkf1 := (hb1.cell (p := ⟨1, k * 4 + 3, none⟩) (cell_lt hkf)).trans hkf
  have HR1' := hideIt (HR.out.ext (Ext.of_below hb1 (fun _ => False)) id id)
  have HNu := hideIt (num_x HR1'.out)
  clear hb1 htc hkf har
  go_wp2_with fail
  go_at_call 103
  refine (HNu.out _ _ (by decide) HNz.out).mono ?_
  rintro e w2 ⟨rfl, hx2, hh⟩
  obtain ⟨c0, hc0⟩ : ∃ c0, c0 = nzC W (nF t) := ⟨_, rfl⟩
  rw [← hc0]
  have c64 : c0 < 18446744073709551616 := by
    have := HNz.out
    omega
  have HC0 := hideIt hc0
  clear hc0
  have HX2 := hideIt (HX1.out.trans hx2 HX1.out.size (fun _ _ q => Or.inl q))
  have HM2 := hideIt (HM1.out.ext hx2 HTD.out)
  have HH := hideIt hh
  clear hx2 hh htc1 hkf1 HNu
  go_wp2_with fail
  generalize hm : nF t = m at *
  have HMm := hideIt hm
  clear hm
  go_loopg [7, 8] (m + 1) (fun gk v7 v8 wr => ∃ (a c : Nat), v7 = .int .u64 (c : Int) ∧ v8 = .int .u64 (a : Int) ∧ c < 18446744073709551616 ∧ Ext w.heap.size (fun b => b = D ∨ b = rb t) w wr ∧ (a ≤ m ∧ c = nzF W a (m - a) ∧ gk = m + 1 - a ∧ Rn D A g cap N (pyF W a a (m - a) ++ rest) wr ∧ ∃ V, Wq t V ∧ (∀ f, f < a → V f = W f) ∧ (∀ f, a ≤ f → V f = 0) ∧ Ms wr A rb sb s tl (updW ws t r V)))
  case atStart =>
    refine ⟨0, c0, rfl, rfl, c64, HX2.out, ?_⟩
    refine ⟨Nat.zero_le _, ?_, rfl, ?_, fun _ => 0, Wq.zero _, fun f hf => absurd hf (Nat.not_lt_zero _), fun _ _ => rfl, HM2.out⟩
    · rw [HC0.out]
      have := HPY.out.2
      rw [Nat.sub_zero]
      exact this
    · have := HPY.out.1
      rw [Nat.sub_zero, ← this]
      exact HH.out
  case round =>
    clear HH HX2 HM2 c64
    obtain ⟨a, c, rfl, rfl, c64, hx, hal⟩ := hrel
    have HXr := hideIt hx
    clear hx
    obtain ⟨am, hc, hgk, hr, V, hq, hV1, hV2, hMr⟩ := hal
    · by_cases c0 : c = 0
      · subst c0
        have HF : Hid (FdXP D A g cap N rest rb sb s tl ws t r W w (.returned (.tuple #[])) wr) := by
          have hz := nzF_zero hc.symm
          refine ⟨rfl, HXr.out, ?_, V, hq, fun f hf => ?_, hMr⟩
          · have : pyF W a a (m - a) = [] := pyF_nil hc.symm
            rw [this] at hr
            exact hr
          · rw [HMm.out] at hf
            by_cases q : f < a
            · exact hV1 f q
            · rw [hV2 f (by omega), hz f (by omega) (by omega)]
        clear hr hq hV1 hV2 hMr hgk hc
        go_wp2_with fail
        exact bodyPost_ret (by simp [results, Tryz.results229]) rfl HF.out
      · obtain ⟨p, p1, p2, p3, p4, p5, p6⟩ := nzF_split (W := W) (d := m - a) (k := a) (a := a) (Nat.le_refl _) (by omega)
        have pm : p < m := by omega
        have cpos : (c : Int) > 0 := by omega
        have herr := hr.err
        have hge : decide ((m : Int) ≤ (a : Int)) = false := decide_eq_false (by omega)
        have w1' : IntKind.u64.wrap ((m : Int) - 1) = (m : Int) - 1 := by unfold IntKind.wrap; simp [IntKind.bits, IntKind.signed]; omega
        have w2' : IntKind.u64.wrap ((m : Int) - 1 - (a : Int)) = (m : Int) - 1 - (a : Int) := by unfold IntKind.wrap; simp [IntKind.bits, IntKind.signed]; omega
        rw [p5] at hr
        have HN1 := hideIt (num_x (show Rn D A g cap N ((p - a) :: ((W p).toNat :: (pyF W (p + 1) (p + 1) (a + (m - a) - (p + 1)) ++ rest))) wr from hr))
        have hpa : ((p - a : Nat) : Int) ≤ (m : Int) - 1 - (a : Int) := by omega
        have HV := hideIt (And.intro hq (And.intro hV1 (And.intro hV2 hMr)))
        have HP := hideIt (And.intro p3 (And.intro p4 p6))
        have HCc := hideIt hc
        have HGK := hideIt hgk
        clear hr hq hV1 hV2 hMr hgk hc p3 p4 p5 p6 c0
        go_wp2_with fail
        go_at_call 103
        refine (HN1.out _ _ (by decide) hpa).mono ?_
        rintro e w3 ⟨rfl, hx3, hst3⟩
        obtain ⟨x, ex⟩ : ∃ x, x = p - a := ⟨_, rfl⟩
        rw [← ex]
        have HX3 := hideIt (HXr.out.trans hx3 HXr.out.size (fun _ _ q => Or.inl q))
        obtain ⟨q3, hq3, _⟩ := hst3.pos
        have HN2 := hideIt (num_x hst3)
        have xle : x ≤ p - a := by omega
        have w3' : IntKind.u64.wrap ((a : Int) + (x : Int)) = (a : Int) + (x : Int) := by unfold IntKind.wrap; simp [IntKind.bits, IntKind.signed]; omega
        have HE3 := hideIt hx3
        have wpb := HWs.out p (by first | exact pm | (rw [HMm.out]; exact pm))
        have hwb : (((W p).toNat : Nat) : Int) ≤ 18446744073709551615 := by omega
        have HEX := hideIt ex
        clear hx3 hst3 HN1 herr hpa ex
        go_wp2_with fail
        go_at_call 103
        refine (HN2.out _ _ (by decide) hwb).mono ?_
        rintro e w4 ⟨rfl, hx4, r4⟩
        have HX4 := hideIt (HX3.out.trans hx4 HX3.out.size (fun _ _ q => Or.inl q))
        have HE4 := hideIt (HE3.out.trans hx4 HE3.out.size (fun _ _ q => q))
        obtain ⟨y, ey⟩ : ∃ y, y = (W p).toNat := ⟨_, rfl⟩
        rw [← ey]
        have y64 : y < 18446744073709551616 := by omega
        have ex := HEX.out
        clear hx4 HN2 hq3 hwb
        · -- both are read
          obtain ⟨hq, hV1, hV2, hMr⟩ := HV.out
          have hM4 := hMr.ext HE4.out HTD.out
          have wp := wpb
          have yi : (y : Int) = W p := by omega
          have y0 : ((y : Int) == 0) = false := by
            rw [beq_eq_false_iff_ne, yi]
            exact HP.out.1
          have herr4 := r4.err
          have hrow := hM4.row t HT6.out r HR1.out
          rw [updW, if_pos ⟨rfl, rfl⟩] at hrow
          have HSt := hideIt (store_any HT6.out hrow (hM4.rfz t HT6.out) (f := p) y y64 (by first | exact pm | (rw [HMm.out]; exact pm)))
          have HM4 := hideIt hM4
          have HR4 := hideIt r4
          have HYI := hideIt yi
          have hap : (a : Int) + (x : Int) = (p : Int) := by omega
          have hpi : (p : Int) < 9223372036854775808 := by omega
          have HFk : Hid (fOk t p (y : Int)) := by
            show fOk t p (y : Int)
            rw [yi]
            exact HVd.out p (by first | exact pm | (rw [HMm.out]; exact pm))
          clear ey r4 hq hV1 hV2 hMr hM4 hrow wp yi ex xle wpb
          go_wp2_with fail
          refine HSt.out.mono ?_
          rintro e w5 (⟨nfo, rfl, hb5⟩ | ⟨h1, rfl, h3, h4⟩)
          · exact absurd HFk.out nfo
          · have HNew : Hid (Ext w.heap.size (fun b => b = D ∨ b = rb t) w w5 ∧ Rn D A g cap N (pyF W (p + 1) (p + 1) (m - (p + 1)) ++ rest) w5 ∧ Wq t (upd V p (y : Int)) ∧ (∀ f, f < p + 1 → upd V p (y : Int) f = W f) ∧ (∀ f, p + 1 ≤ f → upd V p (y : Int) f = 0) ∧ Ms w5 A rb sb s tl (updW ws t r (upd V p (y : Int)))) := by
              obtain ⟨hq, hV1, hV2, _⟩ := HV.out
              obtain ⟨_, p4, _⟩ := HP.out
              refine ⟨HX4.out.trans h3.ext HX4.out.size (fun _ _ q => Or.inr q), ?_, hq.upd (by omega) h1, fun f hf => ?_, fun f hf => ?_, ?_⟩
              · have := HR4.out.ext h3.ext HND.out.1 HND.out.2
                rw [show a + (m - a) - (p + 1) = m - (p + 1) by omega] at this
                exact this
              · unfold upd
                by_cases q : f = p
                · rw [if_pos q, q]; exact HYI.out
                · rw [if_neg q]
                  by_cases q2 : f < a
                  · exact hV1 f q2
                  · rw [hV2 f (by omega), p4 f (by omega) (by omega)]
              · unfold upd
                rw [if_neg (by omega)]
                exact hV2 f (by omega)
              · have := HM4.out.turnRow HT6.out HR1.out h3 h4
                rw [updW_same] at this
                exact this
            have cs : IntKind.u64.wrap ((c : Int) - 1) = ((c - 1 : Nat) : Int) := by unfold IntKind.wrap; simp [IntKind.bits, IntKind.signed]; omega
            have ps : IntKind.u64.wrap ((p : Int) + 1) = ((p + 1 : Nat) : Int) := by unfold IntKind.wrap; simp [IntKind.bits, IntKind.signed]; omega
            clear h1 h3 h4 herr4
            go_wp2_with fail
            go_roundg (m + 1 - (p + 1))
            case measure => rw [HGK.out]; omega
            case rel =>
              obtain ⟨b1, b2, b3, b4, b5, b6⟩ := HNew.out
              refine ⟨p + 1, c - 1, rfl, rfl, by omega, b1, by omega, ?_, rfl, b2, _, b3, b4, b5, b6⟩
              have := HP.out.2.2
              have h7 := HCc.out
              rw [show a + (m - a) - (p + 1) = m - (p + 1) by omega] at this
              omega
end
end Go.Proofs.Qxb6500847aGreatDoor.Os
