/-
  Decode: entry.
-/
import Derived.Test.Qxb6500847aGreatDoorOsDe
import Derived.Test.Qxb6500847aGreatDoorOsDf
import Derived.Test.Qxb6500847aGreatDoorOsQc
namespace Go.Proofs.Qxb6500847aGreatDoor.Os
open Go.RowKit FloorA
set_option maxRecDepth 100000
theorem wrap64_of {x : Int} (h0 : 0 ≤ x) (h1 : x < 9223372036854775808) : wrap64 x = x := by unfold wrap64; omega
theorem ent_ar2 {k x i : Nat} (hx : x ≤ i - k) (hk : k ≤ i) (hi : i < 320) : wrap64 (x : Int) = (x : Int) ∧ wrap64 ((k : Int) + (x : Int)) = (k : Int) + (x : Int) ∧ (x : Int) < 9223372036854775808 :=
  ⟨wrap64_of (by omega) (by omega), wrap64_of (by omega) (by omega), by omega⟩
theorem ent_ar3 {i fl y gN : Nat} (hi : i < 320) (hag : fl + y = gN) (g32 : gN < 4294967296) : (i : Int) < 320 ∧ wrap64 (i : Int) = (i : Int) ∧ ((fl : Int) + (y : Int) % 4294967296) % 4294967296 = (gN : Int) ∧ ¬ 4 + i = 3 ∧ ¬ 4 + i = 2 ∧ ¬ 4 + i = 1 ∧ ¬ 3 = 4 + i ∧ ¬ 2 = 4 + i ∧ ¬ 1 = 4 + i :=
  ⟨by omega, wrap64_of (by omega) (by omega), by omega, by omega, by omega, by omega, by omega, by omega, by omega⟩
theorem snoc_cases' : ∀ l : List Int, l = [] ∨ ∃ m x, l = m ++ [x] := fun l => by
  rcases List.eq_nil_or_concat l with h | ⟨m, x, h⟩
  · exact Or.inl h
  · exact Or.inr ⟨m, x, by rw [h, List.concat_eq_append]⟩
theorem ent_z {z : Nat} (h : z ≤ 7) : (z : Int) < 256 := by omega
theorem ent_sum {k x i : Nat} (hk : k ≤ i) (hx : x = i - k) : (k : Int) + (x : Int) = (i : Int) := by omega
theorem ent_le {x v : Nat} {P Q : Prop} (h : (x = v ∧ P) ∨ (x = 0 ∧ Q)) : x ≤ v := by rcases h with ⟨e, _⟩ | ⟨e, _⟩ <;> omega
section
variable {D A g cap : Nat} {N rest : List Nat} {rb sb : Nat → Nat} {s s1 : Av} {tl tl1 : Nat → List Int} {ws ws1 : Nat → Nat → Nat → Int} {w : World} {L : Nat → List Nat} {n : Nat}
def EtPost (D A g cap : Nat) (N rest : List Nat) (rb sb : Nat → Nat) (i fl : Nat) (s : Av) (ws : Nat → Nat → Nat → Int) (age : Nat) (w : World) (e : Ending) (w' : World) : Prop :=
  Ext w.heap.size (fun b => b = D ∨ Tz A rb sb b) w w' ∧ ((Flt D A w' ∧ ∃ x y : Int, e = .returned (.tuple #[.int .i64 x, .int .u64 y])) ∨ (Rn D A g cap N rest w' ∧ e = .returned (.tuple #[.int .i64 (i : Int), .int .u64 (age : Int)]) ∧ ∃ s1 tl1 ws1, Ms w' A rb sb s1 tl1 ws1 ∧ De (i + 1) fl s ws s1 tl1 ws1))
set_option maxHeartbeats 16000000 in
theorem entry_walk {k i fl age tN gN : Nat} (hR : Rn D A g cap N ((i - k) :: age :: tN :: (entN s ws i ++ rest)) w) (hM : Ms w A rb sb s1 tl1 ws1) (hDe : De k fl s ws s1 tl1 ws1) (hI : IV s tl L n) (hW : Wr ws) (hK : Kd w) (hki : k ≤ i) (hi : i < 320) (hg : (s.hd i).gen = (gN : Int)) (hag : fl + age = gN) (ht : (s.hd i).typ = (tN : Int)) (hl : lis s (fl : Int) i = true) (hsk : ∀ j, k ≤ j → j < i → lis s (fl : Int) j = false) (nD : ¬ Tz A rb sb D) (ng : ¬ Tz A rb sb g) (kD : 1 ≠ D) (kT : ¬ Tz A rb sb 1) :
    Calls Tryz.prog 106 #[.pointer (some ⟨D, 0, none⟩), .int .i64 (k : Int), .int .u32 (fl : Int)] w (EtPost D A g cap N rest rb sb i fl s ws age w) := by
  obtain ⟨p0, hp0, _⟩ := hR.pos
  have hDi := hDe.skip hki (by omega) hsk
  have g32 : gN < 4294967296 := by
    obtain ⟨g0, e0, _, q, _⟩ := hI.ge.gen i hi
    omega
  have t7 : tN ≤ 7 := by
    obtain ⟨k0, e0, q, _⟩ := hI.ge.typ i hi
    omega
  have HDi := hideIt hDi
  have HM := hideIt hM
  have HI := hideIt hI
  have HW : Hid (Wr ws) := hW
  have HK : Hid (Kd w) := hK
  have HG := hideIt hg
  have HTt := hideIt ht
  have HND := hideIt nD
  have HNG := hideIt ng
  have HKD : Hid (1 ≠ D) := kD
  have HKT := hideIt kT
  have HTD : Hid (∀ b, Tz A rb sb b → ¬ b = D) := fun b hb q => nD (by rw [← q]; exact hb)
  have hz : tN = 0 → age ≠ 0 := fun e q => by
    unfold lis at hl
    have h1 : (s.hd i).typ = 0 := by rw [ht, e]; rfl
    have h2 : (s.hd i).gen = (fl : Int) := by rw [hg]; omega
    rw [h1, h2] at hl
    simp at hl
  have HZ : Hid (tN = 0 → age ≠ 0) := hz
  have HN1 := hideIt (num_any (Or.inl hR))
  have kge : decide ((320 : Int) ≤ (k : Int)) = false := decide_eq_false (by omega)
  have a1 : wrap64 (319 - (k : Int)) = 319 - (k : Int) := wrap64_of (by omega) (by omega)
  have a2 : IntKind.u64.wrap (319 - (k : Int)) = 319 - (k : Int) := by unfold IntKind.wrap; simp [IntKind.bits, IntKind.signed]; omega
  have a3 : (4294967295 - (fl : Int)) % 4294967296 = 4294967295 - (fl : Int) := by omega
  have a4 : (0 : Int) ≤ 319 - (k : Int) := by omega
  have a5 : 319 - (k : Int) < 18446744073709551616 := by omega
  have a6 : 4294967295 - (fl : Int) < 18446744073709551616 := by omega
  have a7 : (0 : Int) ≤ 4294967295 - (fl : Int) := by omega
  clear hR hM hDe hDi hI hW hK hg ht hl hsk nD ng kD kT hz
  go_enter Tryz.func106, Tryz.ntmps106
  go_wp2_with fail
  go_at_call 103
  refine (HN1.out _ _ (by decide)).mono ?_
  rintro e w1 ⟨hx1, x, rfl, x64, hh1⟩
  have HX1 := hideIt hx1
  have HH1 := hideIt hh1
  have hst1 : Rf D A g cap N (age :: tN :: (entN s ws i ++ rest)) w1 := by
    rcases hh1 with ⟨_, _, _, q⟩ | ⟨_, q⟩
    · exact Or.inl q
    · exact Or.inr q
  have HN2 := hideIt (num_any hst1)
  have x319 : x ≤ i - k := ent_le hh1
  obtain ⟨b1, b2, b3⟩ := ent_ar2 x319 hki hi
  have HAR := hideIt (And.intro hki (And.intro hi (And.intro hag (And.intro g32 t7))))
  clear hx1 hh1 hst1 HN1 hp0 hag x319 a1 a2 a4 a5 hki hi t7 g32 kge x64
  go_wp2_with fail
  go_at_call 103
  refine (HN2.out _ _ (by decide)).mono ?_
  rintro e w2 ⟨hx2, y, rfl, y64, hh2⟩
  have HX2 := hideIt (HX1.out.trans hx2 HX1.out.size (fun _ _ q => q))
  have HH2 := hideIt hh2
  have hst2 : Rf D A g cap N (tN :: (entN s ws i ++ rest)) w2 := by
    rcases hh2 with ⟨_, _, _, q⟩ | ⟨_, q⟩
    · exact Or.inl q
    · exact Or.inr q
  have HN3 := hideIt (num_any hst2)
  have y32 : y ≤ age := ent_le hh2
  clear hx2 hh2 hst2 HN2 y32 y64 b1 b2 b3 a3 a6 a7
  go_wp2_with fail
  go_at_call 103
  refine (HN3.out _ _ (by decide)).mono ?_
  rintro e w3 ⟨hx3, z, rfl, z64, hh3⟩
  have HX3 := hideIt (HX2.out.trans hx3 HX2.out.size (fun _ _ q => q))
  have z8 : z ≤ 7 := Nat.le_trans (ent_le hh3) HAR.out.2.2.2.2
  have z1 : (z : Int) < 256 := ent_z z8
  clear hx3 HN3
  rcases hh3 with ⟨ez, _, r2, r3⟩ | ⟨ez, f3⟩
  · have ey : y = age := by
      rcases HH2.out with ⟨e, _⟩ | ⟨_, hf⟩
      · exact e
      · exact absurd hf r2.not_flt
    have ex : x = i - k := by
      rcases HH2.out with ⟨_, _, r1, _⟩ | ⟨_, hf⟩
      · rcases HH1.out with ⟨e, _⟩ | ⟨_, hf⟩
        · exact e
        · exact absurd hf r1.not_flt
      · exact absurd hf r2.not_flt
    have exi : (k : Int) + (x : Int) = (i : Int) := ent_sum HAR.out.1 ex
    subst ey ez
    have herr := r3.err
    have HR3 := hideIt r3
    obtain ⟨u, hu⟩ := r3.at' HAR.out.2.1
    have hfz := r3.frz (4 + i)
    obtain ⟨i', cI, cG, m1, m2, m3, m4, m5, m6⟩ := ent_ar3 HAR.out.2.1 HAR.out.2.2.1 HAR.out.2.2.2.1
    have hi := HAR.out.2.1
    clear r2 r3 ex HH1 HH2 z8 z64
    have HM3 := hideIt (HM.out.ext HX3.out HTD.out)
    -- the place is noted
    have HR4 := hideIt (HR3.out.setAt i (p0 : Int))
    have HE4 := hideIt (own_ext w3 D (4 + i) (.int .i64 (p0 : Int)))
    have HM4 := hideIt (HM3.out.ext HE4.out HTD.out)
    have HX4 := hideIt (HX3.out.trans HE4.out HX3.out.size (fun _ _ q => q))
    have HXT : Hid (Ext w.heap.size (fun b => b = D ∨ Tz A rb sb b) w (w3.setCell ⟨D, 4 + i, none⟩ (.int .i64 (p0 : Int)))) := HX4.out.mono (Nat.le_refl _) (fun _ _ q => Or.inl q)
    have har3 := HR3.out.ar
    by_cases z0 : z = 0
    · subst z0
      have y0 : ((y : Int) == 0) = false := by
        have := HZ.out rfl
        rw [beq_eq_false_iff_ne]
        omega
      have hent : entN s ws i = [] := by
        unfold entN
        rw [if_pos (by rw [HTt.out]; rfl)]
      rw [hent, List.nil_append] at HR4
      have HSf := hideIt (setFreeGen_walk HM4.out HDi.out.iv.ge.wd hi gN)
      have HNx := hideIt (HDi.out.gone hi HI.out.ge (by rw [HTt.out]; rfl))
      rw [HG.out] at HNx
      clear hent
      go_wp2_with fail
      clear hu hfz herr har3
      generalize w3.setCell ⟨D, 4 + i, none⟩ (.int .i64 (p0 : Int)) = w4 at *
      go_at_call 105
      refine HSf.out.mono ?_
      rintro e w5 ⟨rfl, hM5, hE5⟩
      have HF : Hid (EtPost D A g cap N rest rb sb i fl s ws y w (.returned (.tuple #[.int .i64 (i : Int), .int .u64 (y : Int)])) w5) := ⟨HXT.out.trans hE5 HX4.out.size (fun _ _ q => Or.inr q), Or.inr ⟨HR4.out.ext hE5 HND.out HNG.out, rfl, _, _, _, hM5, HNx.out⟩⟩
      clear hM5 hE5
      go_wp2_with fail
      exact bodyPost_ret (by simp [results, Tryz.results106]) rfl HF.out
    · have kz : ((z : Int) == 0) = false := by rw [beq_eq_false_iff_ne]; omega
      have gmax : ((gN : Int) == 4294967295) = false := by
        obtain ⟨g0, e0, _, _, q⟩ := HI.out.ge.gen i hi
        have := q (Or.inl (by rw [HTt.out]; omega))
        have := HG.out
        rw [beq_eq_false_iff_ne]
        omega
      have hKd4 : Kd (w3.setCell ⟨D, 4 + i, none⟩ (.int .i64 (p0 : Int))) := fun t0 h0 => by
        obtain ⟨⟨n1, n2, n3⟩, n4, n5⟩ := HK.out t0 h0
        exact ⟨⟨n1, n2, (HX4.out.cell (p := ⟨1, t0 * 4, none⟩) (cell_lt n3) HKD.out).trans n3⟩, (HX4.out.cell (p := ⟨1, t0 * 4 + 1, none⟩) (cell_lt n4) HKD.out).trans n4, (HX4.out.cell (p := ⟨1, t0 * 4 + 3, none⟩) (cell_lt n5) HKD.out).trans n5⟩
      have hkl4 : 1 < (w3.setCell ⟨D, 4 + i, none⟩ (.int .i64 (p0 : Int))).heap.size := by
        obtain ⟨_, n4, _⟩ := hKd4 0 (by omega)
        exact cell_lt n4
      have HKd4 : Hid (Kd (w3.setCell ⟨D, 4 + i, none⟩ (.int .i64 (p0 : Int)))) := hKd4
      have HKl4 : Hid (1 < (w3.setCell ⟨D, 4 + i, none⟩ (.int .i64 (p0 : Int))).heap.size) := hkl4
      have HPa : Hid ((s.hd i).par = 65535 ∨ ∃ p : Nat, 256 ≤ p ∧ p < 320 ∧ (s.hd i).par = (p : Int)) := (HI.out.par hi (by rw [HTt.out]; omega)).imp id (fun ⟨p, hp, e⟩ => ⟨p, hp.1, hp.2.1, e⟩)
      have HBs := hideIt (HI.out.ge.bas i hi)
      have HId : Hid (Idl s1 i) := (HDi.out.free i (Nat.le_refl _) hi).2.2 (fun e => by
        obtain ⟨g0, e0, _, _, q⟩ := HI.out.ge.gen i hi
        have := q (Or.inl (by rw [HTt.out]; omega))
        have h1 := HG.out
        have h2 := HAR.out.2.2.1
        omega)
      clear hKd4 hkl4
      by_cases z1e : z = 1
      · subst z1e
        have i1 : 256 ≤ i := by
          obtain ⟨k0, e0, _, kk⟩ := HI.out.ge.typ i hi
          have h1 := HTt.out
          have : k0 = 1 := by omega
          exact (kk (by omega)).1 this
        have dr : decide (256 ≤ i ∧ i < 320) = true := by simp; omega
        have hent : entN s ws i = whN (s.hd i) := by
          have h1 := HTt.out
          unfold entN
          rw [if_neg (by rw [h1]; decide), if_pos (by rw [h1]; rfl), List.append_nil]
        rw [hent] at HR4
        have HWh := hideIt (where_walk (h := s.hd i) (t := 1) HR4.out HKd4.out HKl4.out HKD.out HTt.out (by omega) (by omega) HPa.out HBs.out)
        clear hent z0
        go_wp2_with fail
        clear hu hfz herr m1 m2 m3 m4 m5 m6
        have har4 := HR4.out.ar
        generalize w3.setCell ⟨D, 4 + i, none⟩ (.int .i64 (p0 : Int)) = w4 at *
        clear har3
        go_at_call 227
        refine (isRegion_walk i _).mono ?_
        rintro e w' ⟨rfl, hw'⟩
        obtain rfl := hw'.symm
        rw [dr]
        go_wp2_with fail
        go_at_call 132
        refine (tableRoom_one A _).mono ?_
        rintro e w' ⟨rfl, hw'⟩
        obtain rfl := hw'.symm
        go_wp2_with fail
        go_at_call 228
        refine HWh.out.mono ?_
        rintro e w5 ⟨hx5, ⟨hf5, p, b, zz, rfl⟩ | ⟨hr5, b, zz, rfl, b64, zz64, hrt, hwn⟩⟩
        · have HF : Hid (EtPost D A g cap N rest rb sb i fl s ws y w (.returned (.tuple #[.int .i64 (i : Int), .int .u64 (y : Int)])) w5) := ⟨HXT.out.trans hx5 HX4.out.size (fun _ _ q => Or.inl q), Or.inl ⟨hf5, _, _, rfl⟩⟩
          obtain ⟨⟨b0, off, ss, f1, _, _⟩, _, _⟩ := hf5
          clear hx5 har4
          go_wp2_with fail
          exact bodyPost_ret (by simp [results, Tryz.results106]) rfl HF.out
        · have herr5 := hr5.err
          have har5 := hr5.ar
          have hM5 := HM4.out.ext hx5 HTD.out
          have e5 := hM5.am.gen hi
          have f5 := hM5.am.free (i * 8)
          have hM6 := hM5.setGen hi (gN : Int)
          have HX6 := hideIt ((HXT.out.trans hx5 HX4.out.size (fun _ _ q => Or.inl q)).trans (Ext.setCell (X := Tz A rb sb) (p := ⟨A, i * 8, none⟩) (Ext.refl w5.heap.size (Tz A rb sb) w5) (Or.inr (Or.inl rfl)) (.int .u32 (gN : Int))) (Nat.le_trans HX4.out.size hx5.size) (fun _ _ q => Or.inr q))
          have HR6 := hideIt (hr5.ext (Ext.setCell (X := Tz A rb sb) (p := ⟨A, i * 8, none⟩) (Ext.refl w5.heap.size (Tz A rb sb) w5) (Or.inr (Or.inl rfl)) (.int .u32 (gN : Int))) HND.out HNG.out)
          have HOc := hideIt (occupy_one hM6 HDi.out.iv.ge.wd i1 hi (b : Int) (zz : Int))
          have HRt : Hid ((s.hd i).par = 65535 → 0 < zz ∧ b + zz ≤ 281474976710656) := fun q => (hrt q).2
          have HWn := hideIt hwn
          have HNx := hideIt (HDi.out.region hi HI.out.ge (by rw [HTt.out]; rfl) b64 zz64 HRt.out hwn HId.out)
          rw [HG.out] at HNx
          have nAD : A ≠ D := fun q => HND.out (Or.inl q.symm)
          have nAD2 : D ≠ A := fun q => HND.out (Or.inl q)
          clear hx5 hr5 hrt hwn hM5 hM6 har4
          go_wp2_with fail
          clear e5 f5 herr5
          have har6 := HR6.out.ar
          generalize w5.setCell ⟨A, i * 8, none⟩ (.int .u32 (gN : Int)) = w6 at *
          clear har5
          go_at_call 128
          refine HOc.out.mono ?_
          rintro e w7 ⟨rfl, hM7, hx7⟩
          have har7 := (HR6.out.ext hx7 HND.out HNG.out).ar
          have e7 := hM7.am.par hi
          have f7 := hM7.am.free (i * 8 + 3)
          have hM8 := hM7.setPar hi (s.hd i).par
          have hX8 := Ext.setCell (X := Tz A rb sb) (p := ⟨A, i * 8 + 3, none⟩) (Ext.refl w7.heap.size (Tz A rb sb) w7) (Or.inr (Or.inl rfl)) (.int .u16 (s.hd i).par)
          have HF : Hid (EtPost D A g cap N rest rb sb i fl s ws y w (.returned (.tuple #[.int .i64 (i : Int), .int .u64 (y : Int)])) (w7.setCell ⟨A, i * 8 + 3, none⟩ (.int .u16 (s.hd i).par))) := ⟨(HX6.out.trans hx7 HX6.out.size (fun _ _ q => Or.inr q)).trans hX8 (Nat.le_trans HX6.out.size hx7.size) (fun _ _ q => Or.inr q), Or.inr ⟨(HR6.out.ext hx7 HND.out HNG.out).ext hX8 HND.out HNG.out, rfl, _, _, _, hM8, HNx.out⟩⟩
          clear hM7 hx7 hM8 hX8 har6
          go_wp2_with fail
          exact bodyPost_ret (by simp [results, Tryz.results106]) rfl HF.out
      · obtain ⟨t, rfl⟩ : ∃ t, z = t + 2 := ⟨z - 2, by omega⟩
        have t6 : t < 6 := by have := HAR.out.2.2.2.2; omega
        have i1 : i < 256 := by
          obtain ⟨k0, e0, _, kk⟩ := HI.out.ge.typ i hi
          have h1 := HTt.out
          have h2 : k0 ≠ 1 := by omega
          have := (not_congr (kk (by omega))).1 h2
          omega
        have dr : decide (256 ≤ i ∧ i < 320) = false := by simp; omega
        have k1 : (((t + 2 : Nat) : Int) == 1) = false := by rw [beq_eq_false_iff_ne]; omega
        have k1n : (((t + 2 : Nat) : Int) != 1) = true := by rw [bne_iff_ne]; omega
        obtain ⟨ro, ero, ro1, _⟩ := HI.out.tb.row i (t + 2) hi (by omega) (by omega) HTt.out
        have hent : entN s ws i = whN (s.hd i) ++ payN (ws t ro) (nF t) := by
          have h1 := HTt.out
          unfold entN
          rw [if_neg (by rw [h1]; omega), if_neg (by rw [h1]; omega), h1, ero, Int.toNat_natCast, Int.toNat_natCast, show t + 2 - 2 = t from rfl]
        rw [hent, List.append_assoc] at HR4
        have HWh := hideIt (where_walk (h := s.hd i) (t := t + 2) HR4.out HKd4.out HKl4.out HKD.out HTt.out (by omega) (by omega) HPa.out HBs.out)
        have HRo := hideIt (And.intro ero (show ro < nR t from ro1))
        have HT6 := hideIt t6
        have HTR := hideIt (tableRoom_walk HM4.out (k := t + 2) (by omega) (by omega))
        clear hent z0 z1e ero ro1 t6
        generalize hk : t + 2 = kk at *
        have HKK := hideIt hk
        clear hk
        go_wp2_with fail
        clear hu hfz herr m1 m2 m3 m4 m5 m6
        have har4 := HR4.out.ar
        generalize w3.setCell ⟨D, 4 + i, none⟩ (.int .i64 (p0 : Int)) = w4 at *
        clear har3
        go_at_call 227
        refine (isRegion_walk i _).mono ?_
        rintro e w' ⟨rfl, hw'⟩
        obtain rfl := hw'.symm
        rw [dr]
        go_wp2_with fail
        go_at_call 132
        refine HTR.out.mono ?_
        rintro e w' ⟨rfl, hw'⟩
        obtain rfl := hw'.symm
        by_cases hlen : (tl1 (kk - 2)).length = 0
        · have k3 : (((tl1 (kk - 2)).length : Int) == 0) = true := by rw [hlen]; rfl
          have HFl := hideIt (fun a r => HR4.out.fail a r)
          clear hlen
          generalize (tl1 (kk - 2)).length = ln at *
          go_wp2_with fail
          go_at_call 104
          refine (HFl.out _ _).mono ?_
          rintro e w5 ⟨rfl, hf5, hx5⟩
          have HF : Hid (EtPost D A g cap N rest rb sb i fl s ws y w (.returned (.tuple #[.int .i64 (i : Int), .int .u64 (y : Int)])) w5) := ⟨HXT.out.trans hx5 HX4.out.size (fun _ _ q => Or.inl q), Or.inl ⟨hf5, _, _, rfl⟩⟩
          clear hf5 hx5
          go_wp2_with fail
          exact bodyPost_ret (by simp [results, Tryz.results106]) rfl HF.out
        · have k3 : (((tl1 (kk - 2)).length : Int) == 0) = false := by rw [beq_eq_false_iff_ne]; omega
          obtain ⟨l, r, hl, hr⟩ : ∃ (l : List Int) (r : Nat), tl1 t = l ++ [(r : Int)] ∧ r < nR t := by
            have hk2 : kk - 2 = t := by have := HKK.out; omega
            rw [hk2] at hlen
            rcases snoc_cases' (tl1 t) with q | ⟨l, x, q⟩
            · rw [q] at hlen
              exact absurd rfl hlen
            · obtain ⟨r, er, r1⟩ := HDi.out.iv.tb.stk t HT6.out x (by rw [q]; simp)
              exact ⟨l, r, by rw [q, er], r1⟩
          have HLr := hideIt (And.intro hl hr)
          clear hlen hl hr
          generalize (tl1 (kk - 2)).length = ln at *
          go_wp2_with fail
          go_at_call 228
          refine HWh.out.mono ?_
          rintro e w5 ⟨hx5, ⟨hf5, p, b, zz, rfl⟩ | ⟨hr5, b, zz, rfl, b64, zz64, hrt, hwn⟩⟩
          · have HF : Hid (EtPost D A g cap N rest rb sb i fl s ws y w (.returned (.tuple #[.int .i64 (i : Int), .int .u64 (y : Int)])) w5) := ⟨HXT.out.trans hx5 HX4.out.size (fun _ _ q => Or.inl q), Or.inl ⟨hf5, _, _, rfl⟩⟩
            obtain ⟨⟨b0, off, ss, f1, _, _⟩, _, _⟩ := hf5
            clear hx5 har4
            go_wp2_with fail
            exact bodyPost_ret (by simp [results, Tryz.results106]) rfl HF.out
          · have hnr : (s.hd i).par ≠ 65535 := fun q => by
              have h1 := (hrt q).1
              rw [HTt.out] at h1
              have := HKK.out
              omega
            have herr5 := hr5.err
            have har5 := hr5.ar
            have hM5 := HM4.out.ext hx5 HTD.out
            have e5 := hM5.am.gen hi
            have f5 := hM5.am.free (i * 8)
            have hM6 := hM5.setGen hi (gN : Int)
            have HX6 := hideIt ((HXT.out.trans hx5 HX4.out.size (fun _ _ q => Or.inl q)).trans (Ext.setCell (X := Tz A rb sb) (p := ⟨A, i * 8, none⟩) (Ext.refl w5.heap.size (Tz A rb sb) w5) (Or.inr (Or.inl rfl)) (.int .u32 (gN : Int))) (Nat.le_trans HX4.out.size hx5.size) (fun _ _ q => Or.inr q))
            have HR6 := hideIt (hr5.ext (Ext.setCell (X := Tz A rb sb) (p := ⟨A, i * 8, none⟩) (Ext.refl w5.heap.size (Tz A rb sb) w5) (Or.inr (Or.inl rfl)) (.int .u32 (gN : Int))) HND.out HNG.out)
            have HOc := hideIt (occupy_obj (k := kk) hM6 HDi.out.iv.ge.wd hi (by have := HKK.out; omega) (by have := HKK.out; have := HT6.out; omega) (l := l) (r := r) (by have := HKK.out; rw [show kk - 2 = t by omega]; exact HLr.out.1) (by have := HKK.out; rw [show kk - 2 = t by omega]; exact HLr.out.2) (b : Int) (zz : Int))
            have HNr := hideIt hnr
            have HWn := hideIt hwn
            have HBz := hideIt (And.intro b64 zz64)
            have nAD : A ≠ D := fun q => HND.out (Or.inl q.symm)
            have nAD2 : D ≠ A := fun q => HND.out (Or.inl q)
            clear hx5 hr5 hrt hwn hM5 hM6 har4 hnr
            go_wp2_with fail
            clear e5 f5 herr5
            have har6 := HR6.out.ar
            generalize w5.setCell ⟨A, i * 8, none⟩ (.int .u32 (gN : Int)) = w6 at *
            clear har5
            go_at_call 128
            refine HOc.out.mono ?_
            rintro e w7 ⟨rfl, hM7, hx7⟩
            have hk2 : kk - 2 = t := by have := HKK.out; omega
            rw [hk2] at hM7
            have har7 := (HR6.out.ext hx7 HND.out HNG.out).ar
            have e7 := hM7.am.par hi
            have f7 := hM7.am.free (i * 8 + 3)
            have hM8 := hM7.setPar hi (s.hd i).par
            have hX8 := Ext.setCell (X := Tz A rb sb) (p := ⟨A, i * 8 + 3, none⟩) (Ext.refl w7.heap.size (Tz A rb sb) w7) (Or.inr (Or.inl rfl)) (.int .u16 (s.hd i).par)
            have HX8 := hideIt ((HX6.out.trans hx7 HX6.out.size (fun _ _ q => Or.inr q)).trans hX8 (Nat.le_trans HX6.out.size hx7.size) (fun _ _ q => Or.inr q))
            have HR8 := hideIt ((HR6.out.ext hx7 HND.out HNG.out).ext hX8 HND.out HNG.out)
            have HM8 := hideIt hM8
            clear hM7 hx7 hM8 hX8 har6
            go_wp2_with fail
            clear e7 f7 har7
            generalize w7.setCell ⟨A, i * 8 + 3, none⟩ (.int .u16 (s.hd i).par) = w8 at *
            have hK8 : Kd w8 := fun t0 h0 => by
              obtain ⟨⟨n1, n2, n3⟩, n4, n5⟩ := HK.out t0 h0
              have nX : ¬ (1 = D ∨ Tz A rb sb 1) := fun q => q.elim HKD.out HKT.out
              exact ⟨⟨n1, n2, (HX8.out.cell (p := ⟨1, t0 * 4, none⟩) (cell_lt n3) nX).trans n3⟩, (HX8.out.cell (p := ⟨1, t0 * 4 + 1, none⟩) (cell_lt n4) nX).trans n4, (HX8.out.cell (p := ⟨1, t0 * 4 + 3, none⟩) (cell_lt n5) nX).trans n5⟩
            have e9 : ((parS (occS ((genS s1 i (gN : Int)).setTi t (.slice (some ⟨sb t, 0, none⟩) l.length (nR t))) i kk (b : Int) (zz : Int) (r : Int)) i (s.hd i).par).hd i).typ = ((t + 2 : Nat) : Int) ∧ ((parS (occS ((genS s1 i (gN : Int)).setTi t (.slice (some ⟨sb t, 0, none⟩) l.length (nR t))) i kk (b : Int) (zz : Int) (r : Int)) i (s.hd i).par).hd i).row = (r : Int) := by
              rw [par_hd, if_pos rfl, occ_hd, if_pos rfl, HKK.out]
              exact ⟨rfl, rfl⟩
            have HFi := hideIt (fields_walk (W := ws t ro) HR8.out HM8.out hK8 (fun f hf => by
              have := (HW.out t ro HT6.out HRo.out.2).1 f hf
              exact ⟨this.1, Int.lt_of_lt_of_le this.2 (fMax_le t f)⟩) HND.out HNG.out hi HT6.out e9.1 e9.2 HLr.out.2)
            clear hK8 e9
            go_at_call 229
            refine HFi.out.mono ?_
            rintro e w9 ⟨rfl, hx9, hh9⟩
            have hX9 := HX8.out.trans hx9 HX8.out.size (fun b _ q => q.elim Or.inl (fun q => Or.inr (by rw [q]; exact Or.inr ⟨t, HT6.out, Or.inl rfl⟩)))
            have HF : Hid (EtPost D A g cap N rest rb sb i fl s ws y w (.returned (.tuple #[.int .i64 (i : Int), .int .u64 (y : Int)])) w9) := by
              refine ⟨hX9, ?_⟩
              rcases hh9 with hf | ⟨hr9, V, hV, hVW, hM9⟩
              · exact Or.inl ⟨hf, _, _, rfl⟩
              · refine Or.inr ⟨hr9, rfl, _, _, _, hM9, ?_⟩
                have := HDi.out.object hi HI.out.ge HT6.out (by rw [HKK.out]; exact HTt.out) HBz.out.1 HBz.out.2 HNr.out HWn.out HId.out HLr.out.1 (.slice (some ⟨sb t, 0, none⟩) l.length (nR t)) hV (fun f hf => by rw [HRo.out.1, Int.toNat_natCast]; exact hVW f hf)
                rw [HG.out, HKK.out] at this
                exact this
            clear hx9 hh9 hX9
            go_wp2_with fail
            exact bodyPost_ret (by simp [results, Tryz.results106]) rfl HF.out
  · have HF : Hid (EtPost D A g cap N rest rb sb i fl s ws age w (.returned (.tuple #[.int .i64 0, .int .u64 0])) w3) := ⟨HX3.out.mono (Nat.le_refl _) (fun _ _ q => Or.inl q), Or.inl ⟨f3, _, _, rfl⟩⟩
    obtain ⟨⟨b0, off, ss, f1, _, _⟩, _, _⟩ := f3
    clear ez HH1 HH2
    go_wp2_with fail
    exact bodyPost_ret (by simp [results, Tryz.results106]) rfl HF.out
end
end Go.Proofs.Qxb6500847aGreatDoor.Os
