/-
  Encode: the payload of an object.
-/
import Derived.Test.Qxb6500847aGreatDoorOsGa
import Derived.Test.Qxb6500847aGreatDoorOsPh
namespace Go.Proofs.Qxb6500847aGreatDoor.Os
open Go.RowKit FloorA
set_option maxRecDepth 100000
def nzC (W : Nat → Int) : Nat → Nat
  | 0 => 0
  | k + 1 => nzC W k + (if W k = 0 then 0 else 1)
def pyA (W : Nat → Int) : Nat → Nat
  | 0 => 0
  | k + 1 => if W k = 0 then pyA W k else k + 1
def pyP (W : Nat → Int) : Nat → List Nat
  | 0 => []
  | k + 1 => if W k = 0 then pyP W k else pyP W k ++ [k - pyA W k, (W k).toNat]
def payN (W : Nat → Int) (m : Nat) : List Nat := nzC W m :: pyP W m
theorem nzC_le (W : Nat → Int) : ∀ k, nzC W k ≤ k
  | 0 => Nat.le_refl _
  | k + 1 => by
    have := nzC_le W k
    unfold nzC
    split <;> omega
theorem nzC_mono (W : Nat → Int) (k : Nat) : ∀ d, nzC W k ≤ nzC W (k + d)
  | 0 => Nat.le_refl _
  | d + 1 => by
    have := nzC_mono W k d
    show nzC W k ≤ nzC W (k + d) + _
    omega
theorem pyA_le (W : Nat → Int) : ∀ k, pyA W k ≤ k
  | 0 => Nat.le_refl _
  | k + 1 => by
    have := pyA_le W k
    unfold pyA
    split <;> omega
theorem pyP_len (W : Nat → Int) : ∀ k, (pyP W k).length ≤ 2 * k
  | 0 => Nat.le_refl _
  | k + 1 => by
    have := pyP_len W k
    unfold pyP
    split
    · omega
    · rw [List.length_append]
      show _ + 2 ≤ _
      omega
theorem pyP_stop (W : Nat → Int) (k : Nat) : ∀ d, nzC W (k + d) ≤ nzC W k → pyP W (k + d) = pyP W k
  | 0, _ => rfl
  | d + 1, h => by
    have h1 := nzC_mono W k d
    have h2 : nzC W (k + d) + (if W (k + d) = 0 then 0 else 1) ≤ nzC W k := h
    have h3 : W (k + d) = 0 := by
      by_cases e : W (k + d) = 0
      · exact e
      · rw [if_neg e] at h2
        omega
    show (if W (k + d) = 0 then _ else _) = _
    rw [if_pos h3]
    exact pyP_stop W k d (by rw [if_pos h3] at h2; omega)
theorem pyP_small {W : Nat → Int} {m : Nat} (hW : ∀ f, f < m → 0 ≤ W f ∧ W f < 18446744073709551616) : ∀ k, k ≤ m → k ≤ 1000 → ∀ x ∈ pyP W k, x < 18446744073709551616
  | 0, _, _, x, hx => absurd hx (by simp [pyP])
  | k + 1, hk, h3, x, hx => by
    unfold pyP at hx
    split at hx
    · exact pyP_small hW k (by omega) (by omega) x hx
    · rcases List.mem_append.1 hx with q | q
      · exact pyP_small hW k (by omega) (by omega) x q
      · have := hW k (by omega)
        rcases List.mem_cons.1 q with e | e
        · omega
        · have : x = (W k).toNat := by simpa using e
          omega
theorem fMax_le : ∀ t f, fMax t f ≤ 18446744073709551616
  | 0, f => by unfold fMax; repeat' split <;> omega
  | 1, f => by unfold fMax; repeat' split <;> omega
  | 2, f => by unfold fMax; repeat' split <;> omega
  | 3, f => by unfold fMax; repeat' split <;> omega
  | 4, f => by unfold fMax; repeat' split <;> omega
  | t + 5, f => by unfold fMax; repeat' split <;> omega
theorem nF_le (t : Nat) : nF t ≤ 112 := by unfold nF; split <;> omega
section
variable {A : Nat} {rb sb : Nat → Nat} {s : Av} {tl : Nat → List Int} {ws : Nat → Nat → Nat → Int} {w : World}
theorem Gr.ofBelow {w w' : World} (h : Below w.heap.size w w') (o : Option Nat) : Gr w w' o o := ⟨⟨h.os, h.tape, h.output, h.size, fun k hk _ => h.block k hk⟩, .inl rfl⟩
set_option maxHeartbeats 8000000 in
theorem appendPayload_walk {base i r t : Nat} {b : Value} {bs : List Int} (h : Ms w A rb sb s tl ws) (hW : Wr ws) (hT : ∀ b, Tz A rb sb b → b < base) (hK : Kd w) (kl : 1 < base) (hi : i < 320) (t6 : t < 6) (et : (s.hd i).typ = ((t + 2 : Nat) : Int)) (er : (s.hd i).row = (r : Int)) (r1 : r < nR t) (ho : Own base w b bs) (hl : bs.length ≤ 90000000) (hb : base ≤ w.heap.size) :
    Calls Tryz.prog 234 #[.pointer (some ⟨A, 0, none⟩), b, .pointer (some ⟨A, i * 8, none⟩)] w (ApPost base b bs (eN (payN (ws t r) (nF t))) w) := by
  have hq := hW t r t6 r1
  have HP := hideIt (payloadOf_walk h hi t6 et er r1)
  have mS := @meth_load t t6
  have eS := @ent_load t t6
  have HM := hideIt h
  have HO := hideIt ho
  have HK : Hid (Kd w) := hK
  have HTz : Hid (∀ b, Tz A rb sb b → b < base) := hT
  obtain ⟨adb, cpb, hbv⟩ := OwnK.shape ho
  have t8 : ((t + 2 : Nat) : Int) < 8 := by omega
  have HLD : Hid (∀ (w1 : World) (f : Nat), Below base w w1 → f < nF t → Calls Tryz.prog (ldF t) #[.pointer (some ⟨rb t, r * nC t, none⟩), .int .i64 (f : Int)] w1 (LdPost (ws t r f) w1)) := fun w1 f k hf => load_any t6 ((HM.out.belowB k HTz.out).row t t6 r r1) hq hf
  have m112 := nF_le t
  have HV : Hid (∀ f, f < nF t → 0 ≤ ws t r f ∧ ws t r f < 18446744073709551616) := fun f hf => ⟨(hq.1 f hf).1, Int.lt_of_lt_of_le (hq.1 f hf).2 (fMax_le t f)⟩
  have HT8 := hideIt t6
  have et1 := h.am.typ hi
  rw [et] at et1
  obtain ⟨_, _, hkf⟩ := hK (t + 2) (by omega)
  rw [nF_k t6] at hkf
  have HCE : Hid (∀ w1, Below w.heap.size w w1 → w1.cell? ⟨A, i * 8 + 1, none⟩ = some (.int .u8 ((t + 2 : Nat) : Int)) ∧ w1.cell? ⟨1, (t + 2) * 4 + 3, none⟩ = some (.int .i64 (nF t : Int))) := fun w1 k => ⟨(k.cell (p := ⟨A, i * 8 + 1, none⟩) h.am.lt).trans et1, (k.cell (p := ⟨1, (t + 2) * 4 + 3, none⟩) (by show 1 < _; omega)).trans hkf⟩
  generalize hWd : ws t r = W at *
  clear hWd h ho hK hT hq et er r1 et1 hkf hW
  generalize nF t = m at *
  subst hbv
  generalize hbl : bs.length = bl at *
  have HBL := hideIt hbl
  clear hbl
  go_enter Tryz.func234, Tryz.ntmps234
  go_wp2_with fail
  go_at_call 119
  refine HP.out.mono ?_
  rintro e w1 ⟨rfl, hb1⟩
  obtain ⟨c1, c2⟩ := HCE.out w1 hb1
  have HB1 := hideIt hb1
  have HO1 := hideIt (OwnK.keepB HO.out hb1)
  have hs1 : base ≤ w1.heap.size := Nat.le_trans hb hb1.size
  clear hb1 HP
  go_wp2_with fail
  go_loopw [9, 10] (fun v9 v10 wr => ∃ k : Nat, k ≤ m ∧ v10 = .int .i64 (k : Int) ∧ v9 = .int .i64 (nzC W k : Int) ∧ Below w1.heap.size w1 wr) (fun _ v10 _ => m - (intOf v10).toNat)
  case atStart => exact ⟨0, Nat.zero_le _, rfl, rfl, Below.refl _ _⟩
  case round =>
    obtain ⟨k, hk, rfl, rfl, hbw⟩ := hrel
    have nk := nzC_le W k
    by_cases hlt : k < m
    · have hlt' : (k : Int) < (m : Int) := by omega
      have HL := hideIt (HLD.out wr k ((Below.thr HB1.out hbw).mono hb) hlt)
      have HBw := hideIt hbw
      have HN : Hid (nzC W (k + 1) = nzC W k + (if W k = 0 then 0 else 1)) := rfl
      generalize nzC W k = z at *
      clear hbw
      by_cases hz : W k = 0
      · have kz : (W k != 0) = false := by rw [hz]; rfl
        rw [if_pos hz] at HN
        clear hz
        generalize W k = x at *
        go_wp2_with fail
        refine HL.out.mono ?_
        rintro e w2 ⟨rfl, hb2⟩
        have HB2 := hideIt (HBw.out.trans (hb2.mono HBw.out.size))
        clear hb2
        go_wp2_with fail
        exact ⟨⟨k + 1, by omega, by go_num, by rw [HN.out]; rfl, HB2.out⟩, by simp [intOf]; omega⟩
      · have kz : (W k != 0) = true := by rw [bne_iff_ne]; exact hz
        rw [if_neg hz] at HN
        clear hz
        generalize W k = x at *
        go_wp2_with fail
        refine HL.out.mono ?_
        rintro e w2 ⟨rfl, hb2⟩
        have HB2 := hideIt (HBw.out.trans (hb2.mono HBw.out.size))
        clear hb2
        go_wp2_with fail
        exact ⟨⟨k + 1, by omega, by go_num, by rw [HN.out]; go_num, HB2.out⟩, by simp [intOf]; omega⟩
    · obtain rfl : k = m := by omega
      have HBw := hideIt hbw
      have hsr : base ≤ wr.heap.size := Nat.le_trans hs1 hbw.size
      have HUV := hideIt (uvar_walk base _ bs (nzC W k) wr (by omega) (OwnK.keepB HO1.out hbw) (by unfold big; rw [HBL.out]; omega) hsr)
      clear hbw
      generalize hnz : nzC W k = N at *
      have HNZ := hideIt hnz
      clear hnz
      go_wp2_with fail
      go_at_call 120
      refine HUV.out.mono ?_
      rintro e w2 ⟨b2, rfl, o2, g2⟩
      have hb02 : Below base w w2 := ((Below.thr HB1.out HBw.out).mono hb).trans (Gr.belowO g2 (OwnK.keepB HO1.out HBw.out) hsr)
      have hg02 : Gr w w2 (Value.slice adb bl cpb).ownBlock b2.ownBlock := (Gr.ofBelow (Below.thr HB1.out HBw.out) _).trans g2
      have HB02 := hideIt hb02
      have HG02 := hideIt hg02
      have HO2 : Hid (Own base w2 b2 (bs ++ (uvs N ++ eN (pyP W 0)))) := by
        have e : eN (pyP W 0) = [] := rfl
        rw [e, List.append_nil]
        exact o2
      obtain ⟨ad2, cp2, rfl⟩ := OwnK.shape o2
      have hs2 : base ≤ w2.heap.size := Nat.le_trans hb hb02.size
      clear o2 g2 hb02 hg02
      have hun := uvs_len (v := N) (by omega)
      generalize (bs ++ uvs N).length = l2 at *
      go_wp2_with fail
      go_loopw [1, 9, 11, 12] (fun v1 v9 v11 v12 wz => ∃ (j : Nat), j ≤ k ∧ v12 = .int .i64 (j : Int) ∧ v9 = .int .i64 ((N - nzC W j : Nat) : Int) ∧ v11 = .int .i64 (pyA W j : Int) ∧ Own base wz v1 (bs ++ (uvs N ++ eN (pyP W j))) ∧ Gr w wz (Value.slice adb bl cpb).ownBlock v1.ownBlock ∧ Below base w wz) (fun _ _ _ v12 _ => k - (intOf v12).toNat)
      case atStart => exact ⟨0, Nat.zero_le _, rfl, rfl, rfl, HO2.out, HG02.out, HB02.out⟩
      case round =>
        obtain ⟨j, hj, rfl, rfl, rfl, hown, hgr, hbw⟩ := hrel
        have pl := pyP_len W j
        have ps := pyP_small HV.out j hj (by omega)
        have el := eN_len ps
        have hlen : (bs ++ (uvs N ++ eN (pyP W j))).length ≤ 90010000 := by
          rw [List.length_append, List.length_append, HBL.out]
          omega
        have HOj := hideIt hown
        have HGj := hideIt hgr
        have HBj := hideIt hbw
        have hsj : base ≤ wr.heap.size := Nat.le_trans hb hbw.size
        obtain ⟨adj, cpj, rfl⟩ := OwnK.shape hown
        have hmon := nzC_mono W j (k - j)
        rw [show j + (k - j) = k by omega, HNZ.out] at hmon
        have hA := pyA_le W j
        by_cases hgo : j < k ∧ 0 < N - nzC W j
        · have c1 : (j : Int) < (k : Int) := by omega
          have c2 : ((N - nzC W j : Nat) : Int) > 0 := by omega
          have HLd := hideIt (HLD.out wr j hbw hgo.1)
          have HVj := hideIt (HV.out j hgo.1)
          have HNj : Hid (nzC W (j + 1) = nzC W j + (if W j = 0 then 0 else 1)) := rfl
          have HAj : Hid (pyA W (j + 1) = if W j = 0 then pyA W j else j + 1) := rfl
          have HPj : Hid (pyP W (j + 1) = if W j = 0 then pyP W j else pyP W j ++ [j - pyA W j, (W j).toNat]) := rfl
          have jk := hgo.1
          by_cases hz : W j = 0
          · have kz : (W j == 0) = true := by rw [hz]; rfl
            rw [if_pos hz] at HNj HAj HPj
            clear hown hgr hbw ps el pl hgo hz
            generalize (bs ++ (uvs N ++ eN (pyP W j))).length = lj at *
            generalize hcx : N - nzC W j = cx at *
            have HCX := hideIt hcx
            clear hcx
            generalize W j = x at *
            go_wp2_with fail
            refine HLd.out.mono ?_
            rintro e w3 ⟨rfl, hb3⟩
            have HO3 := hideIt (OwnK.keepB HOj.out hb3)
            have HG3 := hideIt (HGj.out.trans (Gr.ofBelow hb3 _))
            have HB3 := hideIt (HBj.out.trans (hb3.mono hsj))
            clear hb3
            go_wp2_with fail
            exact ⟨⟨j + 1, by omega, by go_num, by rw [HNj.out, Nat.add_zero, HCX.out], by rw [HAj.out], by rw [HPj.out]; exact HO3.out, HG3.out, HB3.out⟩, by simp [intOf]; omega⟩
          · have kz : (W j == 0) = false := by rw [beq_eq_false_iff_ne]; exact hz
            rw [if_neg hz] at HNj HAj HPj
            obtain ⟨xn, hxn⟩ := Int.eq_ofNat_of_zero_le HVj.out.1
            have hx64 : xn < 18446744073709551616 := by have := HVj.out.2; omega
            have HXN : Hid ((W j).toNat = xn) := by show _ = _; rw [hxn]; rfl
            rw [hxn] at HLd kz
            clear hown hgr hbw ps el pl hgo hz HVj hxn
            have HLN := hideIt hlen
            clear hlen
            generalize hlj : (bs ++ (uvs N ++ eN (pyP W j))).length = lj at *
            generalize hcx : N - nzC W j = cx at *
            have HCX := hideIt hcx
            generalize hpa : pyA W j = pa at *
            have HLJ := hideIt hlj
            clear hcx hlj hpa
            go_wp2_with fail
            refine HLd.out.mono ?_
            rintro e w3 ⟨rfl, hb3⟩
            have HO3 := hideIt (OwnK.keepB HOj.out hb3)
            have HG3 := hideIt (HGj.out.trans (Gr.ofBelow hb3 _))
            have HB3 := hideIt (HBj.out.trans (hb3.mono hsj))
            have hs3 : base ≤ w3.heap.size := Nat.le_trans hsj hb3.size
            have e1 : (j : Int) - (pa : Int) = ((j - pa : Nat) : Int) := by omega
            have hc112 : cx ≤ 112 := by have := HCX.out; omega
            have HCC : Hid (((N - (nzC W j + 1) : Nat) : Int) = (cx : Int) - 1) := by
              show _ = _
              have := HCX.out
              omega
            have HUa := hideIt (uvar_walk base _ _ (j - pa) w3 (by omega) HO3.out (by unfold big; have := HLN.out; have := HLJ.out; omega) hs3)
            have hla := uvs_len (v := j - pa) (by omega)
            clear hb3
            go_wp2_with fail
            go_at_call 120
            refine HUa.out.mono ?_
            rintro e w4 ⟨b4, rfl, o4, g4⟩
            have HG4 := hideIt (HG3.out.trans g4)
            have HB4 := hideIt (HB3.out.trans (Gr.belowO g4 HO3.out hs3))
            have hs4 : base ≤ w4.heap.size := Nat.le_trans hb HB4.out.size
            have HUb := hideIt (uvar_walk base _ _ xn w4 hx64 o4 (by unfold big; rw [List.length_append]; have := HLN.out; have := HLJ.out; omega) hs4)
            have HO4 := hideIt o4
            obtain ⟨ad4, cp4, rfl⟩ := OwnK.shape o4
            clear o4 g4 HUa
            generalize (bs ++ (uvs N ++ eN (pyP W j)) ++ uvs (j - pa)).length = l4 at *
            go_wp2_with fail
            go_at_call 120
            refine HUb.out.mono ?_
            rintro e w5 ⟨b5, rfl, o5, g5⟩
            have HG5 := hideIt (HG4.out.trans g5)
            have HB5 := hideIt (HB4.out.trans (Gr.belowO g5 HO4.out hs4))
            have HO5 : Hid (Own base w5 b5 (bs ++ (uvs N ++ eN (pyP W (j + 1))))) := by
              show OwnK _ _ _ _ _ _
              rw [HPj.out, HXN.out, eN_append]
              have e : eN [j - pa, xn] = uvs (j - pa) ++ uvs xn := by unfold eN; simp
              rw [e]
              simpa [List.append_assoc] using o5
            obtain ⟨ad5, cp5, rfl⟩ := OwnK.shape o5
            clear o5 g5 HUb
            generalize (bs ++ (uvs N ++ eN (pyP W j)) ++ uvs (j - pa) ++ uvs xn).length = l5 at *
            go_wp2_with fail
            exact ⟨⟨j + 1, by omega, by go_num, by rw [HNj.out, HCC.out], by rw [HAj.out]; go_num, HO5.out, HG5.out, HB5.out⟩, by simp [intOf]; omega⟩
        · have HE : Hid (ApPost base (.slice adb bl cpb) bs (eN (payN W k)) w (.returned (.slice adj (bs ++ (uvs N ++ eN (pyP W j))).length cpj)) wr) := by
            refine ⟨_, rfl, ?_, hgr⟩
            have e1 : pyP W k = pyP W j := by
              by_cases e : j = k
              · rw [e]
              · have := pyP_stop W j (k - j) (by rw [show j + (k - j) = k by omega, HNZ.out]; omega)
                rw [show j + (k - j) = k by omega] at this
                exact this
            have e2 : eN (payN W k) = uvs N ++ eN (pyP W j) := by
              unfold payN
              rw [HNZ.out, e1]
              unfold eN
              rw [List.flatMap_cons]
            rw [e2]
            exact hown
          have hst : ¬ ((j : Int) < (k : Int)) ∨ ((j : Int) < (k : Int) ∧ ¬ ((N - nzC W j : Nat) : Int) > 0) := by omega
          clear hown hgr hbw ps el pl hgo hlen
          generalize (bs ++ (uvs N ++ eN (pyP W j))).length = lj at *
          generalize N - nzC W j = cx at *
          generalize pyA W j = pa at *
          rcases hst with q | ⟨q, q2⟩
          · go_wp2_with fail
            exact bodyPost_ret (by simp [results, Tryz.results234]) rfl HE.out
          · have q3 : decide (0 < cx) = false := decide_eq_false (by omega)
            go_wp2_with fail
            exact bodyPost_ret (by simp [results, Tryz.results234]) rfl HE.out
end
end Go.Proofs.Qxb6500847aGreatDoor.Os
