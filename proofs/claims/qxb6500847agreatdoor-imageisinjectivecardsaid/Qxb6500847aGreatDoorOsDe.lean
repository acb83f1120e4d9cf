/-
  Decode: fields.
-/
import Derived.Test.Qxb6500847aGreatDoorOsDd
import Derived.Test.Qxb6500847aGreatDoorOsPg
namespace Go.Proofs.Qxb6500847aGreatDoor.Os
open Go.RowKit FloorA
set_option maxRecDepth 100000
/-- The pairs of the fields from k on, d of them, the last listed one below a. -/
def pyF (W : Nat → Int) : Nat → Nat → Nat → List Nat
  | _, _, 0 => []
  | a, k, d + 1 => if W k = 0 then pyF W a (k + 1) d else [k - a, (W k).toNat] ++ pyF W (k + 1) (k + 1) d
def nzF (W : Nat → Int) : Nat → Nat → Nat
  | _, 0 => 0
  | k, d + 1 => (if W k = 0 then 0 else 1) + nzF W (k + 1) d
theorem pyF_eq (W : Nat → Int) : ∀ d k, pyP W k ++ pyF W (pyA W k) k d = pyP W (k + d)
  | 0, k => by simp [pyF]
  | d + 1, k => by
    have ih := pyF_eq W d (k + 1)
    rw [show k + (d + 1) = k + 1 + d by omega, ← ih]
    rw [show pyF W (pyA W k) k (d + 1) = if W k = 0 then pyF W (pyA W k) (k + 1) d else [k - pyA W k, (W k).toNat] ++ pyF W (k + 1) (k + 1) d from rfl]
    by_cases e : W k = 0
    · rw [if_pos e, show pyP W (k + 1) = pyP W k from by rw [pyP, if_pos e], show pyA W (k + 1) = pyA W k from by rw [pyA, if_pos e]]
    · rw [if_neg e, show pyP W (k + 1) = pyP W k ++ [k - pyA W k, (W k).toNat] from by rw [pyP, if_neg e], show pyA W (k + 1) = k + 1 from by rw [pyA, if_neg e], List.append_assoc]
theorem nzF_eq (W : Nat → Int) : ∀ d k, nzC W k + nzF W k d = nzC W (k + d)
  | 0, k => rfl
  | d + 1, k => by
    have ih := nzF_eq W d (k + 1)
    rw [show k + (d + 1) = k + 1 + d by omega, ← ih]
    rw [show nzC W (k + 1) = nzC W k + (if W k = 0 then 0 else 1) from rfl, show nzF W k (d + 1) = (if W k = 0 then 0 else 1) + nzF W (k + 1) d from rfl]
    omega
theorem nzF_zero {W : Nat → Int} : ∀ {d k : Nat}, nzF W k d = 0 → ∀ f, k ≤ f → f < k + d → W f = 0
  | 0, k, _, f, h1, h2 => absurd h2 (by omega)
  | d + 1, k, h, f, h1, h2 => by
    unfold nzF at h
    by_cases e : W k = 0
    · rw [if_pos e] at h
      by_cases q : f = k
      · rw [q]; exact e
      · exact nzF_zero (d := d) (k := k + 1) (by omega) f (by omega) (by omega)
    · rw [if_neg e] at h
      omega
theorem pyF_nil {W : Nat → Int} : ∀ {d k a : Nat}, nzF W k d = 0 → pyF W a k d = []
  | 0, _, _, _ => rfl
  | d + 1, k, a, h => by
    unfold nzF at h
    by_cases e : W k = 0
    · rw [if_pos e] at h
      rw [pyF, if_pos e]
      exact pyF_nil (by omega)
    · rw [if_neg e] at h
      omega
theorem nzF_split {W : Nat → Int} : ∀ {d k a : Nat}, a ≤ k → 0 < nzF W k d → ∃ p, k ≤ p ∧ p < k + d ∧ W p ≠ 0 ∧ (∀ f, k ≤ f → f < p → W f = 0) ∧ pyF W a k d = (p - a) :: (W p).toNat :: pyF W (p + 1) (p + 1) (k + d - (p + 1)) ∧ nzF W k d = 1 + nzF W (p + 1) (k + d - (p + 1))
  | 0, k, a, _, h => absurd h (Nat.lt_irrefl 0)
  | d + 1, k, a, ha, h => by
    by_cases e : W k = 0
    · have h2 : 0 < nzF W (k + 1) d := by
        unfold nzF at h
        rw [if_pos e] at h
        omega
      obtain ⟨p, p1, p2, p3, p4, p5, p6⟩ := nzF_split (d := d) (k := k + 1) (a := a) (by omega) h2
      refine ⟨p, by omega, by omega, p3, fun f f1 f2 => ?_, ?_, ?_⟩
      · by_cases q : f = k
        · rw [q]; exact e
        · exact p4 f (by omega) f2
      · rw [pyF, if_pos e, p5, show k + (d + 1) - (p + 1) = k + 1 + d - (p + 1) by omega]
      · rw [nzF, if_pos e, p6, show k + (d + 1) - (p + 1) = k + 1 + d - (p + 1) by omega]
        omega
    · refine ⟨k, Nat.le_refl _, by omega, e, fun f f1 f2 => absurd f1 (by omega), ?_, ?_⟩
      · rw [pyF, if_neg e, show k + (d + 1) - (k + 1) = d by omega]
        rfl
      · rw [nzF, if_neg e, show k + (d + 1) - (k + 1) = d by omega]
theorem updW_same (ws : Nat → Nat → Nat → Int) (t r : Nat) (V V' : Nat → Int) : updW (updW ws t r V) t r V' = updW ws t r V' := by
  funext u q
  unfold updW
  split
  · rfl
  · rfl
section
variable {D A g cap : Nat} {N rest : List Nat} {rb sb : Nat → Nat} {s : Av} {tl : Nat → List Int} {ws : Nat → Nat → Nat → Int} {w : World}
/-- What fields reads into row r of table t. -/
def FdPost (D A g cap : Nat) (N rest : List Nat) (rb sb : Nat → Nat) (s : Av) (tl : Nat → List Int) (ws : Nat → Nat → Nat → Int) (t r : Nat) (W : Nat → Int) (w : World) (e : Ending) (w' : World) : Prop :=
  e = .returned (.tuple #[]) ∧ Ext w.heap.size (fun b => b = D ∨ b = rb t) w w' ∧ (Flt D A w' ∨ (Rn D A g cap N rest w' ∧ ∃ V, Wq t V ∧ (∀ f, f < nF t → V f = W f) ∧ Ms w' A rb sb s tl (updW ws t r V)))
set_option maxHeartbeats 8000000 in
theorem fields_walk {i t r : Nat} {W : Nat → Int} (hR : Rn D A g cap N (payN W (nF t) ++ rest) w) (hM : Ms w A rb sb s tl (updW ws t r (fun _ => 0))) (hK : Kd w) (hW : ∀ f, f < nF t → 0 ≤ W f ∧ W f < 18446744073709551616) (nD : ¬ Tz A rb sb D) (ng : ¬ Tz A rb sb g) (hi : i < 320) (t6 : t < 6) (et : (s.hd i).typ = ((t + 2 : Nat) : Int)) (er : (s.hd i).row = (r : Int)) (r1 : r < nR t) :
    Calls Tryz.prog 229 #[.pointer (some ⟨D, 0, none⟩), .int .u16 (i : Int)] w (FdPost D A g cap N rest rb sb s tl ws t r W w) := by
  have har := hR.ar
  have i' : (i : Int) < 320 := by omega
  have HPy := hideIt (payloadOf_walk hM hi t6 et er r1)
  have HM := hideIt hM
  have HWs : Hid (∀ f, f < nF t → 0 ≤ W f ∧ W f < 18446744073709551616) := hW
  have mS := @meth_store t t6
  have eS := @ent_store t t6
  have m112 := nF_le t
  have HND : Hid (D ≠ rb t ∧ g ≠ rb t) := ⟨fun q => nD (by rw [q]; exact Or.inr ⟨t, t6, Or.inl rfl⟩), fun q => ng (by rw [q]; exact Or.inr ⟨t, t6, Or.inl rfl⟩)⟩
  have HTD : Hid (∀ b, Tz A rb sb b → ¬ b = D) := fun b hb q => nD (by rw [← q]; exact hb)
  have HR : Hid (Rn D A g cap N (nzC W (nF t) :: (pyP W (nF t) ++ rest)) w) := hR
  have hkf : w.cell? ⟨1, (t + 2) * 4 + 3, none⟩ = some (.int .i64 (nF t : Int)) := by
    have := (hK (t + 2) (by omega)).2.2
    rw [nF_k t6] at this
    exact this
  have htc := hM.am.typ hi
  rw [et] at htc
  have k8 : ((t + 2 : Nat) : Int) < 8 := by omega
  have HT6 := hideIt t6
  have HR1 : Hid (r < nR t) := r1
  have hpy : pyP W (nF t) = pyF W 0 0 (nF t) := by
    have := pyF_eq W (nF t) 0
    rw [Nat.zero_add] at this
    rw [← this]
    rfl
  have hnz : nzC W (nF t) = nzF W 0 (nF t) := by
    have := nzF_eq W (nF t) 0
    rw [Nat.zero_add] at this
    rw [← this]
    exact Nat.zero_add _
  have HPY := hideIt (And.intro hpy hnz)
  clear hR hM hK hW nD ng et er r1 t6 hpy hnz
  generalize hk : t + 2 = k at *
  clear hk
  go_enter Tryz.func229, Tryz.ntmps229
  go_wp2_with fail
  go_at_call 119
  refine HPy.out.mono ?_
  rintro e w1 ⟨rfl, hb1⟩
  have HX1 : Hid (Ext w.heap.size (fun b => b = D ∨ b = rb t) w w1) := Ext.of_below hb1 _
  have HM1 := hideIt (HM.out.below hb1)
  have htc1 := (hb1.cell (p := ⟨A, i * 8 + 1, none⟩) (cell_lt htc)).trans htc
  have hkf1 := (hb1.cell (p := ⟨1, k * 4 + 3, none⟩) (cell_lt hkf)).trans hkf
  have HR1' := hideIt (HR.out.ext (Ext.of_below hb1 (fun _ => False)) id id)
  have HNu := hideIt (num_any (Or.inl HR1'.out))
  clear hb1 htc hkf har
  go_wp2_with fail
  go_at_call 103
  refine (HNu.out _ _ (by decide)).mono ?_
  rintro e w2 ⟨hx2, c0, rfl, c64, hh⟩
  have HX2 := hideIt (HX1.out.trans hx2 HX1.out.size (fun _ _ q => Or.inl q))
  have HM2 := hideIt (HM1.out.ext hx2 HTD.out)
  have HH := hideIt hh
  clear hx2 hh htc1 hkf1 HNu
  go_wp2_with fail
  generalize hm : nF t = m at *
  have HMm := hideIt hm
  clear hm
  go_loopg [7, 8] (m + 1) (fun gk v7 v8 wr => ∃ (a c : Nat), v7 = .int .u64 (c : Int) ∧ v8 = .int .u64 (a : Int) ∧ c < 18446744073709551616 ∧ Ext w.heap.size (fun b => b = D ∨ b = rb t) w wr ∧ ((c = 0 ∧ Flt D A wr) ∨ (a ≤ m ∧ c = nzF W a (m - a) ∧ gk = m + 1 - a ∧ Rn D A g cap N (pyF W a a (m - a) ++ rest) wr ∧ ∃ V, Wq t V ∧ (∀ f, f < a → V f = W f) ∧ (∀ f, a ≤ f → V f = 0) ∧ Ms wr A rb sb s tl (updW ws t r V))))
  case atStart =>
    refine ⟨0, c0, rfl, rfl, c64, HX2.out, ?_⟩
    rcases HH.out with ⟨e1, _, _, q⟩ | ⟨e1, q⟩
    · refine Or.inr ⟨Nat.zero_le _, ?_, rfl, ?_, fun _ => 0, Wq.zero _, fun f hf => absurd hf (Nat.not_lt_zero _), fun _ _ => rfl, HM2.out⟩
      · rw [e1, HPY.out.2]; rfl
      · have := HPY.out.1
        rw [Nat.sub_zero, ← this]; exact q
    · exact Or.inl ⟨e1, q⟩
  case round =>
    clear HH HX2 HM2 c64
    obtain ⟨a, c, rfl, rfl, c64, hx, hal⟩ := hrel
    have HXr := hideIt hx
    clear hx
    rcases hal with ⟨rfl, hfl⟩ | ⟨am, hc, hgk, hr, V, hq, hV1, hV2, hMr⟩
    · have HF : Hid (FdPost D A g cap N rest rb sb s tl ws t r W w (.returned (.tuple #[])) wr) := ⟨rfl, HXr.out, Or.inl hfl⟩
      clear hfl
      go_wp2_with fail
      exact bodyPost_ret (by simp [results, Tryz.results229]) rfl HF.out
    · by_cases c0 : c = 0
      · subst c0
        have HF : Hid (FdPost D A g cap N rest rb sb s tl ws t r W w (.returned (.tuple #[])) wr) := by
          have hz := nzF_zero hc.symm
          refine ⟨rfl, HXr.out, Or.inr ⟨?_, V, hq, fun f hf => ?_, hMr⟩⟩
          · have : pyF W a a (m - a) = [] := pyF_nil hc.symm
            rw [this] at hr
            exact hr
          · rw [HMm.out] at hf
            by_cases q : f < a
            · exact hV1 f q
            · rw [hV2 f (by omega), hz f (by omega) (by omega)]
        clear hr hq hV1 hV2 hMr hgk hc
        go_wp2_with fail
        exact bodyPost_ret (by simp [results, Tryz.results229]) rfl HF.out
      · obtain ⟨p, p1, p2, p3, p4, p5, p6⟩ := nzF_split (W := W) (d := m - a) (k := a) (a := a) (Nat.le_refl _) (by omega)
        have pm : p < m := by omega
        have cpos : (c : Int) > 0 := by omega
        have herr := hr.err
        have hge : decide ((m : Int) ≤ (a : Int)) = false := decide_eq_false (by omega)
        have w1' : IntKind.u64.wrap ((m : Int) - 1) = (m : Int) - 1 := by unfold IntKind.wrap; simp [IntKind.bits, IntKind.signed]; omega
        have w2' : IntKind.u64.wrap ((m : Int) - 1 - (a : Int)) = (m : Int) - 1 - (a : Int) := by unfold IntKind.wrap; simp [IntKind.bits, IntKind.signed]; omega
        rw [p5] at hr
        have HN1 := hideIt (num_any (Or.inl (show Rn D A g cap N ((p - a) :: ((W p).toNat :: (pyF W (p + 1) (p + 1) (a + (m - a) - (p + 1)) ++ rest))) wr from hr)))
        have HV := hideIt (And.intro hq (And.intro hV1 (And.intro hV2 hMr)))
        have HP := hideIt (And.intro p3 (And.intro p4 p6))
        have HCc := hideIt hc
        have HGK := hideIt hgk
        clear hr hq hV1 hV2 hMr hgk hc p3 p4 p5 p6 c0
        go_wp2_with fail
        go_at_call 103
        refine (HN1.out _ _ (by decide)).mono ?_
        rintro e w3 ⟨hx3, x, rfl, x64, hh3⟩
        have HX3 := hideIt (HXr.out.trans hx3 HXr.out.size (fun _ _ q => Or.inl q))
        have hst3 : Rf D A g cap N ((W p).toNat :: (pyF W (p + 1) (p + 1) (a + (m - a) - (p + 1)) ++ rest)) w3 := by
          rcases hh3 with ⟨_, _, _, q⟩ | ⟨_, q⟩
          · exact Or.inl q
          · exact Or.inr q
        obtain ⟨q3, hq3⟩ := hst3.pos
        have HN2 := hideIt (num_any hst3)
        have xle : x ≤ p - a := by
          rcases hh3 with ⟨e, _⟩ | ⟨e, _⟩ <;> omega
        have w3' : IntKind.u64.wrap ((a : Int) + (x : Int)) = (a : Int) + (x : Int) := by unfold IntKind.wrap; simp [IntKind.bits, IntKind.signed]; omega
        have HH3 := hideIt hh3
        have HE3 := hideIt hx3
        clear hx3 hh3 hst3 HN1 herr
        go_wp2_with fail
        go_at_call 103
        refine (HN2.out _ _ (by decide)).mono ?_
        rintro e w4 ⟨hx4, y, rfl, y64, hh4⟩
        have HX4 := hideIt (HX3.out.trans hx4 HX3.out.size (fun _ _ q => Or.inl q))
        have HE4 := hideIt (HE3.out.trans hx4 HE3.out.size (fun _ _ q => q))
        clear hx4 HN2 hq3
        rcases hh4 with ⟨ey, _, r3, r4⟩ | ⟨ey, f4⟩
        · -- both are read
          have ex : x = p - a := by
            rcases HH3.out with ⟨e, _⟩ | ⟨_, hf⟩
            · exact e
            · exact absurd hf r3.not_flt
          obtain ⟨hq, hV1, hV2, hMr⟩ := HV.out
          have hM4 := hMr.ext HE4.out HTD.out
          have wp := HWs.out p (by first | exact pm | (rw [HMm.out]; exact pm))
          have yi : (y : Int) = W p := by omega
          have y0 : ((y : Int) == 0) = false := by
            rw [beq_eq_false_iff_ne, yi]
            exact HP.out.1
          have herr4 := r4.err
          have hrow := hM4.row t HT6.out r HR1.out
          rw [updW, if_pos ⟨rfl, rfl⟩] at hrow
          have HSt := hideIt (store_any HT6.out hrow (hM4.rfz t HT6.out) (f := p) y y64 (by first | exact pm | (rw [HMm.out]; exact pm)))
          have HM4 := hideIt hM4
          have HR4 := hideIt r4
          have HYI := hideIt yi
          have hap : (a : Int) + (x : Int) = (p : Int) := by omega
          have hpi : (p : Int) < 9223372036854775808 := by omega
          clear ey r3 r4 hq hV1 hV2 hMr hM4 hrow wp yi ex xle HH3
          go_wp2_with fail
          refine HSt.out.mono ?_
          rintro e w5 (⟨_, rfl, hb5⟩ | ⟨h1, rfl, h3, h4⟩)
          · have hr5 := HR4.out.ext (Ext.of_below hb5 (fun _ => False)) id id
            have HX5 := hideIt (HX4.out.trans (Ext.of_below hb5 (fun _ => False)) HX4.out.size (fun _ _ q => absurd q id))
            have HFl := hideIt (fun a r => hr5.fail a r)
            clear hb5 hr5 herr4
            go_wp2_with fail
            go_at_call 104
            refine (HFl.out _ _).mono ?_
            rintro e w6 ⟨rfl, hf6, hx6⟩
            have HF : Hid (FdPost D A g cap N rest rb sb s tl ws t r W w (.returned (.tuple #[])) w6) := ⟨rfl, HX5.out.trans hx6 HX5.out.size (fun _ _ q => Or.inl q), Or.inl hf6⟩
            clear hf6 hx6
            go_wp2_with fail
            exact bodyPost_ret (by simp [results, Tryz.results229]) rfl HF.out
          · have HNew : Hid (Ext w.heap.size (fun b => b = D ∨ b = rb t) w w5 ∧ Rn D A g cap N (pyF W (p + 1) (p + 1) (m - (p + 1)) ++ rest) w5 ∧ Wq t (upd V p (y : Int)) ∧ (∀ f, f < p + 1 → upd V p (y : Int) f = W f) ∧ (∀ f, p + 1 ≤ f → upd V p (y : Int) f = 0) ∧ Ms w5 A rb sb s tl (updW ws t r (upd V p (y : Int)))) := by
              obtain ⟨hq, hV1, hV2, _⟩ := HV.out
              obtain ⟨_, p4, _⟩ := HP.out
              refine ⟨HX4.out.trans h3.ext HX4.out.size (fun _ _ q => Or.inr q), ?_, hq.upd (by omega) h1, fun f hf => ?_, fun f hf => ?_, ?_⟩
              · have := HR4.out.ext h3.ext HND.out.1 HND.out.2
                rw [show a + (m - a) - (p + 1) = m - (p + 1) by omega] at this
                exact this
              · unfold upd
                by_cases q : f = p
                · rw [if_pos q, q]; exact HYI.out
                · rw [if_neg q]
                  by_cases q2 : f < a
                  · exact hV1 f q2
                  · rw [hV2 f (by omega), p4 f (by omega) (by omega)]
              · unfold upd
                rw [if_neg (by omega)]
                exact hV2 f (by omega)
              · have := HM4.out.turnRow HT6.out HR1.out h3 h4
                rw [updW_same] at this
                exact this
            have cs : IntKind.u64.wrap ((c : Int) - 1) = ((c - 1 : Nat) : Int) := by unfold IntKind.wrap; simp [IntKind.bits, IntKind.signed]; omega
            have ps : IntKind.u64.wrap ((p : Int) + 1) = ((p + 1 : Nat) : Int) := by unfold IntKind.wrap; simp [IntKind.bits, IntKind.signed]; omega
            clear h1 h3 h4 herr4
            go_wp2_with fail
            go_roundg (m + 1 - (p + 1))
            case measure => rw [HGK.out]; omega
            case rel =>
              obtain ⟨b1, b2, b3, b4, b5, b6⟩ := HNew.out
              refine ⟨p + 1, c - 1, rfl, rfl, by omega, b1, Or.inr ⟨by omega, ?_, rfl, b2, _, b3, b4, b5, b6⟩⟩
              have := HP.out.2.2
              have h7 := HCc.out
              rw [show a + (m - a) - (p + 1) = m - (p + 1) by omega] at this
              omega
        · -- a fault
          have HF : Hid (FdPost D A g cap N rest rb sb s tl ws t r W w (.returned (.tuple #[])) w4) := ⟨rfl, HX4.out, Or.inl f4⟩
          obtain ⟨⟨b, off, ss, f1, _, _⟩, _, _⟩ := f4
          clear ey xle HH3
          go_wp2_with fail
          exact bodyPost_ret (by simp [results, Tryz.results229]) rfl HF.out
end
end Go.Proofs.Qxb6500847aGreatDoor.Os
