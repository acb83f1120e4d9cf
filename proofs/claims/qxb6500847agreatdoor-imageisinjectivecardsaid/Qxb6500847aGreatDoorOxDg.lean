/-
  Decode: entry, exactly.
-/
import Derived.Test.Qxb6500847aGreatDoorOxDd
import Derived.Test.Qxb6500847aGreatDoorOxDe
import Derived.Test.Qxb6500847aGreatDoorOxDx
import Derived.Test.Qxb6500847aGreatDoorOxQa
import Derived.Test.Qxb6500847aGreatDoorOsDg
namespace Go.Proofs.Qxb6500847aGreatDoor.Os
open Go.RowKit FloorA
set_option maxRecDepth 100000
section
variable {D A g cap : Nat} {N rest : List Nat} {rb sb : Nat → Nat} {s s1 : Av} {tl tl1 : Nat → List Int} {ws ws1 : Nat → Nat → Nat → Int} {w : World} {L : Nat → List Nat} {n : Nat}
def EtXP (D A g cap : Nat) (N rest : List Nat) (rb sb : Nat → Nat) (i fl : Nat) (s : Av) (ws : Nat → Nat → Nat → Int) (age : Nat) (w : World) (e : Ending) (w' : World) : Prop :=
  Ext w.heap.size (fun b => b = D ∨ Tz A rb sb b) w w' ∧ Rn D A g cap N rest w' ∧ e = .returned (.tuple #[.int .i64 (i : Int), .int .u64 (age : Int)]) ∧ ∃ s1 tl1 ws1, Ms w' A rb sb s1 tl1 ws1 ∧ Dx (i + 1) fl s ws s1 tl1 ws1
set_option maxHeartbeats 16000000 in
theorem entry_x {k i fl age tN gN : Nat} (hR : Rn D A g cap N ((i - k) :: age :: tN :: (entN s ws i ++ rest)) w) (hM : Ms w A rb sb s1 tl1 ws1) (hDe : Dx k fl s ws s1 tl1 ws1) (hI : IV s tl L n) (hX : IX s tl L n) (hW : Wr ws) (hK : Kd w) (hki : k ≤ i) (hi : i < 320) (hg : (s.hd i).gen = (gN : Int)) (hag : fl + age = gN) (ht : (s.hd i).typ = (tN : Int)) (hl : lis s (fl : Int) i = true) (hsk : ∀ j, k ≤ j → j < i → lis s (fl : Int) j = false) (nD : ¬ Tz A rb sb D) (ng : ¬ Tz A rb sb g) (kD : 1 ≠ D) (kT : ¬ Tz A rb sb 1) :
    Calls Tryz.prog 106 #[.pointer (some ⟨D, 0, none⟩), .int .i64 (k : Int), .int .u32 (fl : Int)] w (EtXP D A g cap N rest rb sb i fl s ws age w) := by
  obtain ⟨p0, hp0, _⟩ := hR.pos
  have hDi := hDe.skip hki (by omega) hsk
  have g32 : gN < 4294967296 := by
    obtain ⟨g0, e0, _, q, _⟩ := hI.ge.gen i hi
    omega
  have t7 : tN ≤ 7 := by
    obtain ⟨k0, e0, q, _⟩ := hI.ge.typ i hi
    omega
  have HDi := hideIt hDi
  have HM := hideIt hM
  have HI := hideIt hI
  have HXx := hideIt hX
  have HW : Hid (Wr ws) := hW
  have HK : Hid (Kd w) := hK
  have HG := hideIt hg
  have HTt := hideIt ht
  have HND := hideIt nD
  have HNG := hideIt ng
  have HKD : Hid (1 ≠ D) := kD
  have HKT := hideIt kT
  have HTD : Hid (∀ b, Tz A rb sb b → ¬ b = D) := fun b hb q => nD (by rw [← q]; exact hb)
  have hz : tN = 0 → age ≠ 0 := fun e q => by
    unfold lis at hl
    have h1 : (s.hd i).typ = 0 := by rw [ht, e]; rfl
    have h2 : (s.hd i).gen = (fl : Int) := by rw [hg]; omega
    rw [h1, h2] at hl
    simp at hl
  have HZ : Hid (tN = 0 → age ≠ 0) := hz
  have HN1 := hideIt (num_x hR)
  have HBd : Hid (((i - k : Nat) : Int) ≤ 319 - (k : Int) ∧ (age : Int) ≤ 4294967295 - (fl : Int) ∧ (tN : Int) ≤ 7) := by
    show ((i - k : Nat) : Int) ≤ 319 - (k : Int) ∧ (age : Int) ≤ 4294967295 - (fl : Int) ∧ (tN : Int) ≤ 7
    omega
  have kge : decide ((320 : Int) ≤ (k : Int)) = false := decide_eq_false (by omega)
  have a1 : wrap64 (319 - (k : Int)) = 319 - (k : Int) := wrap64_of (by omega) (by omega)
  have a2 : IntKind.u64.wrap (319 - (k : Int)) = 319 - (k : Int) := by unfold IntKind.wrap; simp [IntKind.bits, IntKind.signed]; omega
  have a3 : (4294967295 - (fl : Int)) % 4294967296 = 4294967295 - (fl : Int) := by omega
  have a4 : (0 : Int) ≤ 319 - (k : Int) := by omega
  have a5 : 319 - (k : Int) < 18446744073709551616 := by omega
  have a6 : 4294967295 - (fl : Int) < 18446744073709551616 := by omega
  have a7 : (0 : Int) ≤ 4294967295 - (fl : Int) := by omega
  clear hR hM hDe hDi hI hX hW hK hg ht hl hsk nD ng kD kT hz
  go_enter Tryz.func106, Tryz.ntmps106
  go_wp2_with fail
  go_at_call 103
  refine (HN1.out _ _ (by decide) HBd.out.1).mono ?_
  rintro e w1 ⟨rfl, hx1, hst1⟩
  obtain ⟨x, ex0⟩ : ∃ x, x = i - k := ⟨_, rfl⟩
  rw [← ex0]
  have HEX := hideIt ex0
  have HX1 := hideIt hx1
  have HN2 := hideIt (num_x hst1)
  have x319 : x ≤ i - k := by omega
  obtain ⟨b1, b2, b3⟩ := ent_ar2 x319 hki hi
  have HAR := hideIt (And.intro hki (And.intro hi (And.intro hag (And.intro g32 t7))))
  clear hx1 hst1 HN1 hp0 hag x319 a1 a2 a4 a5 hki hi t7 g32 kge ex0
  go_wp2_with fail
  go_at_call 103
  refine (HN2.out _ _ (by decide) HBd.out.2.1).mono ?_
  rintro e w2 ⟨rfl, hx2, hst2⟩
  obtain ⟨y, ey0⟩ : ∃ y, y = age := ⟨_, rfl⟩
  rw [← ey0]
  have HEY := hideIt ey0
  have HX2 := hideIt (HX1.out.trans hx2 HX1.out.size (fun _ _ q => q))
  have HN3 := hideIt (num_x hst2)
  clear hx2 hst2 HN2 b1 b2 b3 a3 a6 a7 ey0
  go_wp2_with fail
  go_at_call 103
  refine (HN3.out _ _ (by decide) HBd.out.2.2).mono ?_
  rintro e w3 ⟨rfl, hx3, r3⟩
  obtain ⟨z, ez⟩ : ∃ z, z = tN := ⟨_, rfl⟩
  rw [← ez]
  have HX3 := hideIt (HX2.out.trans hx3 HX2.out.size (fun _ _ q => q))
  have z8 : z ≤ 7 := by rw [ez]; exact HAR.out.2.2.2.2
  have z1 : (z : Int) < 256 := ent_z z8
  clear hx3 HN3
  · have ey : y = age := HEY.out
    have ex : x = i - k := HEX.out
    have exi : (k : Int) + (x : Int) = (i : Int) := ent_sum HAR.out.1 ex
    subst ey ez
    have herr := r3.err
    have HR3 := hideIt r3
    obtain ⟨u, hu⟩ := r3.at' HAR.out.2.1
    have hfz := r3.frz (4 + i)
    obtain ⟨i', cI, cG, m1, m2, m3, m4, m5, m6⟩ := ent_ar3 HAR.out.2.1 HAR.out.2.2.1 HAR.out.2.2.2.1
    have hi := HAR.out.2.1
    clear r3 ex z8
    have HM3 := hideIt (HM.out.ext HX3.out HTD.out)
    -- the place is noted
    have HR4 := hideIt (HR3.out.setAt i (p0 : Int))
    have HE4 := hideIt (own_ext w3 D (4 + i) (.int .i64 (p0 : Int)))
    have HM4 := hideIt (HM3.out.ext HE4.out HTD.out)
    have HX4 := hideIt (HX3.out.trans HE4.out HX3.out.size (fun _ _ q => q))
    have HXT : Hid (Ext w.heap.size (fun b => b = D ∨ Tz A rb sb b) w (w3.setCell ⟨D, 4 + i, none⟩ (.int .i64 (p0 : Int)))) := HX4.out.mono (Nat.le_refl _) (fun _ _ q => Or.inl q)
    have har3 := HR3.out.ar
    by_cases z0 : z = 0
    · subst z0
      have y0 : ((y : Int) == 0) = false := by
        have := HZ.out rfl
        rw [beq_eq_false_iff_ne]
        omega
      have hent : entN s ws i = [] := by
        unfold entN
        rw [if_pos (by rw [HTt.out]; rfl)]
      rw [hent, List.nil_append] at HR4
      have HSf := hideIt (setFreeGen_walk HM4.out HDi.out.de.iv.ge.wd hi gN)
      have HNx := hideIt (HDi.out.gone hi HI.out.ge (by rw [HTt.out]; rfl) (by have a := HZ.out rfl; have b := HAR.out.2.2.1; have c := HAR.out.2.2.2.1; omega))
      rw [HG.out] at HNx
      clear hent
      go_wp2_with fail
      clear hu hfz herr har3
      generalize w3.setCell ⟨D, 4 + i, none⟩ (.int .i64 (p0 : Int)) = w4 at *
      go_at_call 105
      refine HSf.out.mono ?_
      rintro e w5 ⟨rfl, hM5, hE5⟩
      have HF : Hid (EtXP D A g cap N rest rb sb i fl s ws y w (.returned (.tuple #[.int .i64 (i : Int), .int .u64 (y : Int)])) w5) := ⟨HXT.out.trans hE5 HX4.out.size (fun _ _ q => Or.inr q), HR4.out.ext hE5 HND.out HNG.out, rfl, _, _, _, hM5, HNx.out⟩
      clear hM5 hE5
      go_wp2_with fail
      exact bodyPost_ret (by simp [results, Tryz.results106]) rfl HF.out
    · have kz : ((z : Int) == 0) = false := by rw [beq_eq_false_iff_ne]; omega
      have gmax : ((gN : Int) == 4294967295) = false := by
        obtain ⟨g0, e0, _, _, q⟩ := HI.out.ge.gen i hi
        have := q (Or.inl (by rw [HTt.out]; omega))
        have := HG.out
        rw [beq_eq_false_iff_ne]
        omega
      have hKd4 : Kd (w3.setCell ⟨D, 4 + i, none⟩ (.int .i64 (p0 : Int))) := fun t0 h0 => by
        obtain ⟨⟨n1, n2, n3⟩, n4, n5⟩ := HK.out t0 h0
        exact ⟨⟨n1, n2, (HX4.out.cell (p := ⟨1, t0 * 4, none⟩) (cell_lt n3) HKD.out).trans n3⟩, (HX4.out.cell (p := ⟨1, t0 * 4 + 1, none⟩) (cell_lt n4) HKD.out).trans n4, (HX4.out.cell (p := ⟨1, t0 * 4 + 3, none⟩) (cell_lt n5) HKD.out).trans n5⟩
      have hkl4 : 1 < (w3.setCell ⟨D, 4 + i, none⟩ (.int .i64 (p0 : Int))).heap.size := by
        obtain ⟨_, n4, _⟩ := hKd4 0 (by omega)
        exact cell_lt n4
      have HKd4 : Hid (Kd (w3.setCell ⟨D, 4 + i, none⟩ (.int .i64 (p0 : Int)))) := hKd4
      have HKl4 : Hid (1 < (w3.setCell ⟨D, 4 + i, none⟩ (.int .i64 (p0 : Int))).heap.size) := hkl4
      have HPa : Hid ((s.hd i).par = 65535 ∨ ∃ p : Nat, 256 ≤ p ∧ p < 320 ∧ (s.hd i).par = (p : Int)) := (HI.out.par hi (by rw [HTt.out]; omega)).imp id (fun ⟨p, hp, e⟩ => ⟨p, hp.1, hp.2.1, e⟩)
      have HBs := hideIt (HI.out.ge.bas i hi)
      have HFl : Hid (fl ≠ 4294967295) := fun e => by
        obtain ⟨g0, e0, _, _, q⟩ := HI.out.ge.gen i hi
        have := q (Or.inl (by rw [HTt.out]; omega))
        have h1 := HG.out
        have h2 := HAR.out.2.2.1
        omega
      have HId : Hid (Idl s1 i) := (HDi.out.de.free i (Nat.le_refl _) hi).2.2 HFl.out
      have hnz : (s.hd i).typ ≠ 0 := by rw [HTt.out]; omega
      have lm := HXx.out.gm.lim i hi hnz
      obtain ⟨b, hb⟩ : ∃ b : Nat, (s.hd i).bas = (b : Int) := ⟨_, (Int.toNat_of_nonneg lm.1).symm⟩
      obtain ⟨zz, hzz⟩ : ∃ b : Nat, (s.hd i).siz = (b : Int) := ⟨_, (Int.toNat_of_nonneg (by omega)).symm⟩
      have HGo : Hid (GoodP (s.hd i) z) := by
        show GoodP (s.hd i) z
        rcases par_some HI.out hi hnz with q | ⟨p, hp, e, _⟩
        · refine Or.inl ⟨q, ?_, lm⟩
          obtain ⟨j, hj, ej⟩ := HI.out.ro.all i hi hnz q
          have h1 := (HI.out.ro.reg j i hj ej).1.2.2
          rw [HTt.out] at h1
          omega
        · obtain ⟨k0, u, a1, a2, a3, a4, a5⟩ := HXx.out.gm.ali i hi hnz (by rw [e]; have := hp.2.1; omega)
          refine Or.inr ⟨p, k0, u, hp.1, hp.2.1, e, a1, a2, lm.2.2, a3, fun q => a4 (by rw [HTt.out, q]; rfl), fun q => ?_⟩
          rw [a5 (by rw [HTt.out]; omega), HTt.out, Int.toNat_natCast]
      have HBB := hideIt hb
      have HZZ := hideIt hzz
      clear hKd4 hkl4 lm hb hzz hnz
      by_cases z1e : z = 1
      · subst z1e
        have i1 : 256 ≤ i := by
          obtain ⟨k0, e0, _, kk⟩ := HI.out.ge.typ i hi
          have h1 := HTt.out
          have : k0 = 1 := by omega
          exact (kk (by omega)).1 this
        have dr : decide (256 ≤ i ∧ i < 320) = true := by simp; omega
        have hent : entN s ws i = whN (s.hd i) := by
          have h1 := HTt.out
          unfold entN
          rw [if_neg (by rw [h1]; decide), if_pos (by rw [h1]; rfl), List.append_nil]
        rw [hent] at HR4
        have HWh := hideIt (where_x (h := s.hd i) (t := 1) HR4.out HKd4.out HKl4.out HKD.out HTt.out (by omega) (by omega) HGo.out)
        unfold WhXP at HWh
        rw [HBB.out, HZZ.out] at HWh
        clear hent z0
        go_wp2_with fail
        clear hu hfz herr m1 m2 m3 m4 m5 m6
        have har4 := HR4.out.ar
        generalize w3.setCell ⟨D, 4 + i, none⟩ (.int .i64 (p0 : Int)) = w4 at *
        clear har3
        go_at_call 227
        refine (isRegion_walk i _).mono ?_
        rintro e w' ⟨rfl, hw'⟩
        obtain rfl := hw'.symm
        rw [dr]
        go_wp2_with fail
        go_at_call 132
        refine (tableRoom_one A _).mono ?_
        rintro e w' ⟨rfl, hw'⟩
        obtain rfl := hw'.symm
        go_wp2_with fail
        go_at_call 228
        refine HWh.out.mono ?_
        rintro e w5 ⟨rfl, hx5, hr5⟩
        · have herr5 := hr5.err
          have har5 := hr5.ar
          have hM5 := HM4.out.ext hx5 HTD.out
          have e5 := hM5.am.gen hi
          have f5 := hM5.am.free (i * 8)
          have hM6 := hM5.setGen hi (gN : Int)
          have HX6 := hideIt ((HXT.out.trans hx5 HX4.out.size (fun _ _ q => Or.inl q)).trans (Ext.setCell (X := Tz A rb sb) (p := ⟨A, i * 8, none⟩) (Ext.refl w5.heap.size (Tz A rb sb) w5) (Or.inr (Or.inl rfl)) (.int .u32 (gN : Int))) (Nat.le_trans HX4.out.size hx5.size) (fun _ _ q => Or.inr q))
          have HR6 := hideIt (hr5.ext (Ext.setCell (X := Tz A rb sb) (p := ⟨A, i * 8, none⟩) (Ext.refl w5.heap.size (Tz A rb sb) w5) (Or.inr (Or.inl rfl)) (.int .u32 (gN : Int))) HND.out HNG.out)
          have HOc := hideIt (occupy_one hM6 HDi.out.de.iv.ge.wd i1 hi (b : Int) (zz : Int))
          have HNx := hideIt (HDi.out.region HXx.out hi HI.out.ge (by rw [HTt.out]; rfl) HBB.out HZZ.out HId.out HFl.out)
          rw [HG.out] at HNx
          have nAD : A ≠ D := fun q => HND.out (Or.inl q.symm)
          have nAD2 : D ≠ A := fun q => HND.out (Or.inl q)
          clear hx5 hr5 hM5 hM6 har4
          go_wp2_with fail
          clear e5 f5 herr5
          have har6 := HR6.out.ar
          generalize w5.setCell ⟨A, i * 8, none⟩ (.int .u32 (gN : Int)) = w6 at *
          clear har5
          go_at_call 128
          refine HOc.out.mono ?_
          rintro e w7 ⟨rfl, hM7, hx7⟩
          have har7 := (HR6.out.ext hx7 HND.out HNG.out).ar
          have e7 := hM7.am.par hi
          have f7 := hM7.am.free (i * 8 + 3)
          have hM8 := hM7.setPar hi (s.hd i).par
          have hX8 := Ext.setCell (X := Tz A rb sb) (p := ⟨A, i * 8 + 3, none⟩) (Ext.refl w7.heap.size (Tz A rb sb) w7) (Or.inr (Or.inl rfl)) (.int .u16 (s.hd i).par)
          have HF : Hid (EtXP D A g cap N rest rb sb i fl s ws y w (.returned (.tuple #[.int .i64 (i : Int), .int .u64 (y : Int)])) (w7.setCell ⟨A, i * 8 + 3, none⟩ (.int .u16 (s.hd i).par))) := ⟨(HX6.out.trans hx7 HX6.out.size (fun _ _ q => Or.inr q)).trans hX8 (Nat.le_trans HX6.out.size hx7.size) (fun _ _ q => Or.inr q), (HR6.out.ext hx7 HND.out HNG.out).ext hX8 HND.out HNG.out, rfl, _, _, _, hM8, HNx.out⟩
          clear hM7 hx7 hM8 hX8 har6
          go_wp2_with fail
          exact bodyPost_ret (by simp [results, Tryz.results106]) rfl HF.out
      · obtain ⟨t, rfl⟩ : ∃ t, z = t + 2 := ⟨z - 2, by omega⟩
        have t6 : t < 6 := by have := HAR.out.2.2.2.2; omega
        have i1 : i < 256 := by
          obtain ⟨k0, e0, _, kk⟩ := HI.out.ge.typ i hi
          have h1 := HTt.out
          have h2 : k0 ≠ 1 := by omega
          have := (not_congr (kk (by omega))).1 h2
          omega
        have dr : decide (256 ≤ i ∧ i < 320) = false := by simp; omega
        have k1 : (((t + 2 : Nat) : Int) == 1) = false := by rw [beq_eq_false_iff_ne]; omega
        have k1n : (((t + 2 : Nat) : Int) != 1) = true := by rw [bne_iff_ne]; omega
        obtain ⟨ro, ero, ro1, _⟩ := HI.out.tb.row i (t + 2) hi (by omega) (by omega) HTt.out
        have hent : entN s ws i = whN (s.hd i) ++ payN (ws t ro) (nF t) := by
          have h1 := HTt.out
          unfold entN
          rw [if_neg (by rw [h1]; omega), if_neg (by rw [h1]; omega), h1, ero, Int.toNat_natCast, Int.toNat_natCast, show t + 2 - 2 = t from rfl]
        rw [hent, List.append_assoc] at HR4
        have HWh := hideIt (where_x (h := s.hd i) (t := t + 2) HR4.out HKd4.out HKl4.out HKD.out HTt.out (by omega) (by omega) HGo.out)
        unfold WhXP at HWh
        rw [HBB.out, HZZ.out] at HWh
        have HRoom := hideIt (HDi.out.room HXx.out hi t6 HTt.out)
        have HRo := hideIt (And.intro ero (show ro < nR t from ro1))
        have HT6 := hideIt t6
        have HTR := hideIt (tableRoom_walk HM4.out (k := t + 2) (by omega) (by omega))
        clear hent z0 z1e ero ro1 t6
        generalize hk : t + 2 = kk at *
        have HKK := hideIt hk
        clear hk
        go_wp2_with fail
        clear hu hfz herr m1 m2 m3 m4 m5 m6
        have har4 := HR4.out.ar
        generalize w3.setCell ⟨D, 4 + i, none⟩ (.int .i64 (p0 : Int)) = w4 at *
        clear har3
        go_at_call 227
        refine (isRegion_walk i _).mono ?_
        rintro e w' ⟨rfl, hw'⟩
        obtain rfl := hw'.symm
        rw [dr]
        go_wp2_with fail
        go_at_call 132
        refine HTR.out.mono ?_
        rintro e w' ⟨rfl, hw'⟩
        obtain rfl := hw'.symm
        have hlen : ¬ (tl1 (kk - 2)).length = 0 := by
          have h1 := HRoom.out
          have h2 := HKK.out
          rw [show kk - 2 = t by omega]
          omega
        · have k3 : (((tl1 (kk - 2)).length : Int) == 0) = false := by rw [beq_eq_false_iff_ne]; omega
          obtain ⟨l, r, hl, hr⟩ : ∃ (l : List Int) (r : Nat), tl1 t = l ++ [(r : Int)] ∧ r < nR t := by
            have hk2 : kk - 2 = t := by have := HKK.out; omega
            rw [hk2] at hlen
            rcases snoc_cases' (tl1 t) with q | ⟨l, x, q⟩
            · rw [q] at hlen
              exact absurd rfl hlen
            · obtain ⟨r, er, r1⟩ := HDi.out.de.iv.tb.stk t HT6.out x (by rw [q]; simp)
              exact ⟨l, r, by rw [q, er], r1⟩
          have HLr := hideIt (And.intro hl hr)
          clear hlen hl hr
          generalize (tl1 (kk - 2)).length = ln at *
          go_wp2_with fail
          go_at_call 228
          refine HWh.out.mono ?_
          rintro e w5 ⟨rfl, hx5, hr5⟩
          · have hnr : (s.hd i).par ≠ 65535 := fun q => by
              rcases HGo.out with g | ⟨p, _, _, p1, p2, e, _⟩
              · have h1 := g.2.1
                have := HKK.out
                omega
              · omega
            have herr5 := hr5.err
            have har5 := hr5.ar
            have hM5 := HM4.out.ext hx5 HTD.out
            have e5 := hM5.am.gen hi
            have f5 := hM5.am.free (i * 8)
            have hM6 := hM5.setGen hi (gN : Int)
            have HX6 := hideIt ((HXT.out.trans hx5 HX4.out.size (fun _ _ q => Or.inl q)).trans (Ext.setCell (X := Tz A rb sb) (p := ⟨A, i * 8, none⟩) (Ext.refl w5.heap.size (Tz A rb sb) w5) (Or.inr (Or.inl rfl)) (.int .u32 (gN : Int))) (Nat.le_trans HX4.out.size hx5.size) (fun _ _ q => Or.inr q))
            have HR6 := hideIt (hr5.ext (Ext.setCell (X := Tz A rb sb) (p := ⟨A, i * 8, none⟩) (Ext.refl w5.heap.size (Tz A rb sb) w5) (Or.inr (Or.inl rfl)) (.int .u32 (gN : Int))) HND.out HNG.out)
            have HOc := hideIt (occupy_obj (k := kk) hM6 HDi.out.de.iv.ge.wd hi (by have := HKK.out; omega) (by have := HKK.out; have := HT6.out; omega) (l := l) (r := r) (by have := HKK.out; rw [show kk - 2 = t by omega]; exact HLr.out.1) (by have := HKK.out; rw [show kk - 2 = t by omega]; exact HLr.out.2) (b : Int) (zz : Int))
            have HNr := hideIt hnr
            have nAD : A ≠ D := fun q => HND.out (Or.inl q.symm)
            have nAD2 : D ≠ A := fun q => HND.out (Or.inl q)
            clear hx5 hr5 hM5 hM6 har4 hnr
            go_wp2_with fail
            clear e5 f5 herr5
            have har6 := HR6.out.ar
            generalize w5.setCell ⟨A, i * 8, none⟩ (.int .u32 (gN : Int)) = w6 at *
            clear har5
            go_at_call 128
            refine HOc.out.mono ?_
            rintro e w7 ⟨rfl, hM7, hx7⟩
            have hk2 : kk - 2 = t := by have := HKK.out; omega
            rw [hk2] at hM7
            have har7 := (HR6.out.ext hx7 HND.out HNG.out).ar
            have e7 := hM7.am.par hi
            have f7 := hM7.am.free (i * 8 + 3)
            have hM8 := hM7.setPar hi (s.hd i).par
            have hX8 := Ext.setCell (X := Tz A rb sb) (p := ⟨A, i * 8 + 3, none⟩) (Ext.refl w7.heap.size (Tz A rb sb) w7) (Or.inr (Or.inl rfl)) (.int .u16 (s.hd i).par)
            have HX8 := hideIt ((HX6.out.trans hx7 HX6.out.size (fun _ _ q => Or.inr q)).trans hX8 (Nat.le_trans HX6.out.size hx7.size) (fun _ _ q => Or.inr q))
            have HR8 := hideIt ((HR6.out.ext hx7 HND.out HNG.out).ext hX8 HND.out HNG.out)
            have HM8 := hideIt hM8
            clear hM7 hx7 hM8 hX8 har6
            go_wp2_with fail
            clear e7 f7 har7
            generalize w7.setCell ⟨A, i * 8 + 3, none⟩ (.int .u16 (s.hd i).par) = w8 at *
            have hK8 : Kd w8 := fun t0 h0 => by
              obtain ⟨⟨n1, n2, n3⟩, n4, n5⟩ := HK.out t0 h0
              have nX : ¬ (1 = D ∨ Tz A rb sb 1) := fun q => q.elim HKD.out HKT.out
              exact ⟨⟨n1, n2, (HX8.out.cell (p := ⟨1, t0 * 4, none⟩) (cell_lt n3) nX).trans n3⟩, (HX8.out.cell (p := ⟨1, t0 * 4 + 1, none⟩) (cell_lt n4) nX).trans n4, (HX8.out.cell (p := ⟨1, t0 * 4 + 3, none⟩) (cell_lt n5) nX).trans n5⟩
            have e9 : ((parS (occS ((genS s1 i (gN : Int)).setTi t (.slice (some ⟨sb t, 0, none⟩) l.length (nR t))) i kk (b : Int) (zz : Int) (r : Int)) i (s.hd i).par).hd i).typ = ((t + 2 : Nat) : Int) ∧ ((parS (occS ((genS s1 i (gN : Int)).setTi t (.slice (some ⟨sb t, 0, none⟩) l.length (nR t))) i kk (b : Int) (zz : Int) (r : Int)) i (s.hd i).par).hd i).row = (r : Int) := by
              rw [par_hd, if_pos rfl, occ_hd, if_pos rfl, HKK.out]
              exact ⟨rfl, rfl⟩
            have HFi := hideIt (fields_x (W := ws t ro) HR8.out HM8.out hK8 (fun f hf => ⟨((HW.out t ro HT6.out HRo.out.2).1 f hf).2, (HW.out t ro HT6.out HRo.out.2).2 f hf⟩) (fun f hf => by
              have := (HW.out t ro HT6.out HRo.out.2).1 f hf
              exact ⟨this.1, Int.lt_of_lt_of_le this.2 (fMax_le t f)⟩) HND.out HNG.out hi HT6.out e9.1 e9.2 HLr.out.2)
            clear hK8 e9
            go_at_call 229
            refine HFi.out.mono ?_
            rintro e w9 ⟨rfl, hx9, hr9, V, hV, hVW, hM9⟩
            have hX9 := HX8.out.trans hx9 HX8.out.size (fun b _ q => q.elim Or.inl (fun q => Or.inr (by rw [q]; exact Or.inr ⟨t, HT6.out, Or.inl rfl⟩)))
            have HF : Hid (EtXP D A g cap N rest rb sb i fl s ws y w (.returned (.tuple #[.int .i64 (i : Int), .int .u64 (y : Int)])) w9) := by
              refine ⟨hX9, hr9, rfl, _, _, _, hM9, ?_⟩
              · have := HDi.out.object HXx.out hi HI.out.ge HT6.out (by rw [HKK.out]; exact HTt.out) HBB.out HZZ.out HNr.out HId.out HFl.out HLr.out.1 (.slice (some ⟨sb t, 0, none⟩) l.length (nR t)) hV (fun f hf => by rw [HRo.out.1, Int.toNat_natCast]; exact hVW f hf)
                rw [HG.out, HKK.out] at this
                exact this
            clear hx9 hr9 hV hVW hM9 hX9
            go_wp2_with fail
            exact bodyPost_ret (by simp [results, Tryz.results106]) rfl HF.out
end
end Go.Proofs.Qxb6500847aGreatDoor.Os
