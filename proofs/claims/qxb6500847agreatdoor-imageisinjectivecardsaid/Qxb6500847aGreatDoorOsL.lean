/-
  vacate.
-/
import Derived.Test.Qxb6500847aGreatDoorOsK
namespace Go.Proofs.Qxb6500847aGreatDoor.Os
open Go.RowKit FloorA
set_option maxRecDepth 100000
theorem isRegion_walk (i : Nat) (w : World) :
    Calls Tryz.prog 227 #[.int .u16 (i : Int)] w fun e w' => e = .returned (.bool (decide (256 ≤ i ∧ i < 320))) ∧ w' = w := by
  by_cases h1 : 256 ≤ i <;> by_cases h2 : i < 320
  · have k1 : ((i : Int) ≥ 256) = True := by simp; omega
    have k2 : ((i : Int) < 320) = True := by simp; omega
    go_enter Tryz.func227, Tryz.ntmps227
    go_wp2_with fail
    go_ret
    exact ⟨by simp [h1, h2], rfl⟩
  · have k1 : ((i : Int) ≥ 256) = True := by simp; omega
    have k2 : ((i : Int) < 320) = False := by simp; omega
    go_enter Tryz.func227, Tryz.ntmps227
    go_wp2_with fail
    go_ret
    exact ⟨by simp [h2], rfl⟩
  · have k1 : ((i : Int) ≥ 256) = False := by simp; omega
    go_enter Tryz.func227, Tryz.ntmps227
    go_wp2_with fail
    go_ret
    exact ⟨by simp [h1], rfl⟩
  · have k1 : ((i : Int) ≥ 256) = False := by simp; omega
    go_enter Tryz.func227, Tryz.ntmps227
    go_wp2_with fail
    go_ret
    exact ⟨by simp [h1], rfl⟩
section
variable {A : Nat} {rb sb : Nat → Nat} {s s' : Av} {tl : Nat → List Int} {ws : Nat → Nat → Nat → Int} {w w' : World} {i : Nat}

/-- What vacate leaves, behind giveRow. -/
def vacS (s : Av) (i k : Nat) : Av :=
  let g := ((s.hd i).gen + 1) % 4294967296
  let s1 := s.setLv k (wrap64 (s.lv k - 1))
  let s2 := if k = 1 then s1 else { s1 with c2 := IntKind.u64.wrap (s.c2 - (s.hd i).siz) }
  let s3 := s2.setHd i ⟨g, 0, 0, 65535, 65535, 65535, 0, 0⟩
  if g < 4294967295 then s3.on i else if 256 ≤ i then { s3 with c1 := wrap64 (s.c1 + 1) } else { s3 with c0 := wrap64 (s.c0 + 1) }

set_option maxHeartbeats 4000000 in
theorem vacate_obj (h : Ms w A rb sb s tl ws) (hw : Wd s) (h2 : i < 256) {k : Nat} (k2 : 2 ≤ k) (k7 : k ≤ 7) (hk : (s.hd i).typ = (k : Int)) (hn : (tl (k - 2)).length < nR (k - 2)) :
    Calls Tryz.prog 248 #[.pointer (some ⟨A, 0, none⟩), .int .u16 (i : Int)] w (MsPost (vacS (s.setTi (k - 2) (.slice (some ⟨sb (k - 2), 0, none⟩) ((tl (k - 2)).length + 1) (nR (k - 2)))) i k) A rb sb (updT tl (k - 2) (tl (k - 2) ++ [(s.hd i).row])) ws w) := by
  have hi3 : i < 320 := by omega
  have t1 := h.am.typ hi3
  have t2 := h.am.rw hi3
  rw [hk] at t1
  have hi' : (i : Int) < 320 := by omega
  have kb : (k : Int) < 8 := by omega
  have kn : ((k : Int) != 1) = true := by rw [bne_iff_ne]; omega
  have HM := hideIt h
  have Hn := hideIt hn
  have Hk := hideIt hk
  clear h hn hk
  go_enter Tryz.func248, Tryz.ntmps248
  go_wp2_with fail
  go_region_held3 (fun w' => w'.cell? ⟨A, i * 8 + 1, none⟩ = some (.int .u8 (k : Int)) ∧ w'.cell? ⟨A, i * 8 + 2, none⟩ = some (.int .u16 (s.hd i).row)) (go_keep)
    (first | (go_at_call 295; refine (giveRow_walk (HM.out.below (below_d _)) k2 k7 Hn.out (s.hd i).row).mono ?_; rintro e w1 ⟨rfl, hM1, hE1⟩; have H1 := hideIt hM1; have HE1 := hideIt ((Ext.of_below (below_d w) (Tz A rb sb)).trans hE1 (below_d w).size (fun _ _ q => q)); have t1 := hM1.am.typ hi3; have t2 := hM1.am.rw hi3; simp only [Av.setTi] at t1 t2; rw [Hk.out] at t1; clear hM1 hE1))
  have a0 := H1.out.am.gen hi3
  have a3 := H1.out.am.par hi3
  have a4 := H1.out.am.prv hi3
  have a5 := H1.out.am.nxt hi3
  have a6 := H1.out.am.bas hi3
  have a7 := H1.out.am.siz hi3
  have lv := H1.out.lvc (k := k) (by omega)
  have c2 : w1.cell? ⟨A, 2908, none⟩ = some (.int .u64 s.c2) := (H1.out.am.cell 2908 (by omega)).trans (by rw [(mem_c _).2.2.1]; rfl)
  have hf := H1.out.am.free
  have b0 := hf (i * 8)
  have b1 := hf (i * 8 + 1)
  have b2 := hf (i * 8 + 2)
  have b3 := hf (i * 8 + 3)
  have b4 := hf (i * 8 + 4)
  have b5 := hf (i * 8 + 5)
  have b6 := hf (i * 8 + 6)
  have b7 := hf (i * 8 + 7)
  have b8 := hf (2898 + k)
  have b9 := hf 2908
  simp only [Av.setTi] at a0 a3 a4 a5 a6 a7 lv
  clear hf
  have hq := (H1.out.setS (H1.out.am.setLv (i := k) (wrap64 (s.lv k - 1)) (by omega)) rfl rfl)
  have hq2 := hq.setS (hq.am.setC2 (IntKind.u64.wrap (s.c2 - (s.hd i).siz))) rfl rfl
  have H2 := hideIt (((((((((((hq2.open i).hgen hi3 (((s.hd i).gen + 1) % 4294967296)).htyp hi3 0).hrow hi3 0).hpar hi3 65535).hprv hi3 65535).hnxt hi3 65535).hbas hi3 0).hsiz hi3 0).below (below_d _)).below (below_d _))
  have HE2 := hideIt ((((((((((((HE1.out.setA (2898 + k) (.int .i64 (wrap64 (s.lv k - 1)))).setA 2908 (.int .u64 (IntKind.u64.wrap (s.c2 - (s.hd i).siz)))).setA (i * 8) (.int .u32 (((s.hd i).gen + 1) % 4294967296))).setA (i * 8 + 1) (.int .u8 0)).setA (i * 8 + 2) (.int .u16 0)).setA (i * 8 + 3) (.int .u16 65535)).setA (i * 8 + 4) (.int .u16 65535)).setA (i * 8 + 5) (.int .u16 65535)).setA (i * 8 + 6) (.int .u64 0)).setA (i * 8 + 7) (.int .u64 0)).drew).drew)
  clear hq hq2
  have n1 : ¬ k = 1 := by omega
  by_cases hg : ((s.hd i).gen + 1) % 4294967296 < 4294967295
  · go_wp2_with fail
    go_region
    go_wp2_with fail
    go_region
    go_wp2_with fail
    clear a0 a3 a4 a5 a6 a7 lv c2 b0 b1 b2 b3 b4 b5 b6 b7 b8 b9 t1 t2
    generalize ((((((((((w1.setCell ⟨A, 2898 + k, none⟩ (.int .i64 (wrap64 (s.lv k - 1)))).setCell ⟨A, 2908, none⟩ (.int .u64 (IntKind.u64.wrap (s.c2 - (s.hd i).siz)))).setCell ⟨A, i * 8, none⟩ (.int .u32 (((s.hd i).gen + 1) % 4294967296))).setCell ⟨A, i * 8 + 1, none⟩ (.int .u8 0)).setCell ⟨A, i * 8 + 2, none⟩ (.int .u16 0)).setCell ⟨A, i * 8 + 3, none⟩ (.int .u16 65535)).setCell ⟨A, i * 8 + 4, none⟩ (.int .u16 65535)).setCell ⟨A, i * 8 + 5, none⟩ (.int .u16 65535)).setCell ⟨A, i * 8 + 6, none⟩ (.int .u64 0)).setCell ⟨A, i * 8 + 7, none⟩ (.int .u64 0)).drew.drew = w2 at *
    go_at_call 42
    have hw2 : Wd ({ (s.setTi (k - 2) (.slice (some ⟨sb (k - 2), 0, none⟩) ((tl (k - 2)).length + 1) (nR (k - 2)))).setLv k (wrap64 (s.lv k - 1)) with c2 := IntKind.u64.wrap (s.c2 - (s.hd i).siz) }.setHd i ⟨((s.hd i).gen + 1) % 4294967296, 0, 0, 65535, 65535, 65535, 0, 0⟩) := hw
    refine (set_walk H2.out.am hw2 hi3).mono ?_
    rintro e w3 ⟨rfl, hA3, hE3⟩
    have H3 := hideIt (H2.out.turnA hE3 hA3 rfl rfl)
    have HE3 := hideIt (HE2.out.trans hE3 HE2.out.size (fun _ _ q => Or.inl q))
    clear hA3 hE3
    have HO : Hid (∀ x, x = vacS (s.setTi (k - 2) (.slice (some ⟨sb (k - 2), 0, none⟩) ((tl (k - 2)).length + 1) (nR (k - 2)))) i k → Ms w3 A rb sb x (updT tl (k - 2) (tl (k - 2) ++ [(s.hd i).row])) ws) := fun x e => by
      have := H3.out
      rw [e]
      unfold vacS
      have hg' : (((s.setTi (k - 2) (.slice (some ⟨sb (k - 2), 0, none⟩) ((tl (k - 2)).length + 1) (nR (k - 2)))).hd i).gen + 1) % 4294967296 < 4294967295 := by first | exact hg | (intro q; have q2 : ((s.hd i).gen + 1) % 4294967296 < 4294967295 := q; omega)
      simp only [n1, if_false]
      rw [if_pos hg']
      exact this
    go_wp2_with fail
    exact bodyPost_ret (v := .tuple #[]) (by simp [results, Tryz.results248]) rfl ⟨rfl, HO.out _ rfl, HE3.out⟩
  · have nr : ¬ 256 ≤ i := by omega
    have dr : decide (256 ≤ i ∧ i < 320) = false := by simp; omega
    go_wp2_with fail
    go_region
    go_wp2_with fail
    go_region
    go_wp2_with fail
    clear a0 a3 a4 a5 a6 a7 lv c2 b0 b1 b2 b3 b4 b5 b6 b7 b8 b9 t1 t2
    generalize ((((((((((w1.setCell ⟨A, 2898 + k, none⟩ (.int .i64 (wrap64 (s.lv k - 1)))).setCell ⟨A, 2908, none⟩ (.int .u64 (IntKind.u64.wrap (s.c2 - (s.hd i).siz)))).setCell ⟨A, i * 8, none⟩ (.int .u32 (((s.hd i).gen + 1) % 4294967296))).setCell ⟨A, i * 8 + 1, none⟩ (.int .u8 0)).setCell ⟨A, i * 8 + 2, none⟩ (.int .u16 0)).setCell ⟨A, i * 8 + 3, none⟩ (.int .u16 65535)).setCell ⟨A, i * 8 + 4, none⟩ (.int .u16 65535)).setCell ⟨A, i * 8 + 5, none⟩ (.int .u16 65535)).setCell ⟨A, i * 8 + 6, none⟩ (.int .u64 0)).setCell ⟨A, i * 8 + 7, none⟩ (.int .u64 0)).drew.drew = w2 at *
    go_at_call 227
    refine (isRegion_walk i _).mono ?_
    rintro e w' ⟨rfl, hw'⟩
    obtain rfl := hw'.symm
    rw [dr]
    have c0 : w2.cell? ⟨A, 2906, none⟩ = some (.int .i64 s.c0) := (H2.out.am.cell 2906 (by omega)).trans (by rw [(mem_c _).1]; rfl)
    have f0 := H2.out.am.free 2906
    have H3 := hideIt (H2.out.setS (H2.out.am.setC0 (wrap64 (s.c0 + 1))) rfl rfl)
    have HE3 := hideIt (HE2.out.setA 2906 (.int .i64 (wrap64 (s.c0 + 1))))
    have HO : Hid (∀ x, x = vacS (s.setTi (k - 2) (.slice (some ⟨sb (k - 2), 0, none⟩) ((tl (k - 2)).length + 1) (nR (k - 2)))) i k → Ms (w2.setCell ⟨A, 2906, none⟩ (.int .i64 (wrap64 (s.c0 + 1)))) A rb sb x (updT tl (k - 2) (tl (k - 2) ++ [(s.hd i).row])) ws) := fun x e => by
      have := H3.out
      rw [e]
      unfold vacS
      have hg' : ¬ (((s.setTi (k - 2) (.slice (some ⟨sb (k - 2), 0, none⟩) ((tl (k - 2)).length + 1) (nR (k - 2)))).hd i).gen + 1) % 4294967296 < 4294967295 := by first | exact hg | (intro q; have q2 : ((s.hd i).gen + 1) % 4294967296 < 4294967295 := q; omega)
      simp only [n1, if_false]
      rw [if_neg hg', if_neg nr]
      exact this
    go_wp2_with fail
    exact bodyPost_ret (v := .tuple #[]) (by simp [results, Tryz.results248]) rfl ⟨rfl, HO.out _ rfl, HE3.out⟩
set_option maxHeartbeats 4000000 in
theorem vacate_one (h : Ms w A rb sb s tl ws) (hw : Wd s) (h1 : 256 ≤ i) (hi3 : i < 320) (hk : (s.hd i).typ = 1) :
    Calls Tryz.prog 248 #[.pointer (some ⟨A, 0, none⟩), .int .u16 (i : Int)] w (MsPost (vacS s i 1) A rb sb tl ws w) := by
  have t1 := h.am.typ hi3
  have t2 := h.am.rw hi3
  rw [hk] at t1
  have hi' : (i : Int) < 320 := by omega
  have HM := hideIt h
  have Hk := hideIt hk
  clear h hk
  go_enter Tryz.func248, Tryz.ntmps248
  go_wp2_with fail
  go_region_held3 (fun w' => w'.cell? ⟨A, i * 8 + 1, none⟩ = some (.int .u8 1) ∧ w'.cell? ⟨A, i * 8 + 2, none⟩ = some (.int .u16 (s.hd i).row)) (go_keep)
    (first | (go_at_call 295; refine (giveRow_none A _ _).mono ?_; rintro e w1 ⟨rfl, hw1⟩; subst hw1))
  have H1 := hideIt ((HM.out.below (below_d _)))
  have HE1 := hideIt ((Ext.refl w.heap.size (Tz A rb sb) w).drew)
  generalize w.drew = w1 at *
  have a0 := H1.out.am.gen hi3
  have a3 := H1.out.am.par hi3
  have a4 := H1.out.am.prv hi3
  have a5 := H1.out.am.nxt hi3
  have a6 := H1.out.am.bas hi3
  have a7 := H1.out.am.siz hi3
  have lv := H1.out.lvc (k := 1) (by omega)
  have hf := H1.out.am.free
  have b0 := hf (i * 8)
  have b1 := hf (i * 8 + 1)
  have b2 := hf (i * 8 + 2)
  have b3 := hf (i * 8 + 3)
  have b4 := hf (i * 8 + 4)
  have b5 := hf (i * 8 + 5)
  have b6 := hf (i * 8 + 6)
  have b7 := hf (i * 8 + 7)
  have b8 := hf (2898 + 1)
  clear hf
  have hq := (H1.out.setS (H1.out.am.setLv (i := 1) (wrap64 (s.lv 1 - 1)) (by omega)) rfl rfl)
  have H2 := hideIt ((((((((((hq.open i).hgen hi3 (((s.hd i).gen + 1) % 4294967296)).htyp hi3 0).hrow hi3 0).hpar hi3 65535).hprv hi3 65535).hnxt hi3 65535).hbas hi3 0).hsiz hi3 0).below (below_d _))
  have HE2 := hideIt (((((((((((HE1.out.setA (2898 + 1) (.int .i64 (wrap64 (s.lv 1 - 1)))).setA (i * 8) (.int .u32 (((s.hd i).gen + 1) % 4294967296))).setA (i * 8 + 1) (.int .u8 0)).setA (i * 8 + 2) (.int .u16 0)).setA (i * 8 + 3) (.int .u16 65535)).setA (i * 8 + 4) (.int .u16 65535)).setA (i * 8 + 5) (.int .u16 65535)).setA (i * 8 + 6) (.int .u64 0)).setA (i * 8 + 7) (.int .u64 0)).drew))
  clear hq
  by_cases hg : ((s.hd i).gen + 1) % 4294967296 < 4294967295
  · go_wp2_with fail
    go_region
    go_wp2_with fail
    clear a0 a3 a4 a5 a6 a7 lv b0 b1 b2 b3 b4 b5 b6 b7 b8 t1 t2
    generalize (((((((((w1.setCell ⟨A, 2899, none⟩ (.int .i64 (wrap64 (s.lv 1 - 1)))).setCell ⟨A, i * 8, none⟩ (.int .u32 (((s.hd i).gen + 1) % 4294967296))).setCell ⟨A, i * 8 + 1, none⟩ (.int .u8 0)).setCell ⟨A, i * 8 + 2, none⟩ (.int .u16 0)).setCell ⟨A, i * 8 + 3, none⟩ (.int .u16 65535)).setCell ⟨A, i * 8 + 4, none⟩ (.int .u16 65535)).setCell ⟨A, i * 8 + 5, none⟩ (.int .u16 65535)).setCell ⟨A, i * 8 + 6, none⟩ (.int .u64 0)).setCell ⟨A, i * 8 + 7, none⟩ (.int .u64 0)).drew = w2 at *
    go_at_call 42
    have hw2 : Wd ((s.setLv 1 (wrap64 (s.lv 1 - 1))).setHd i ⟨((s.hd i).gen + 1) % 4294967296, 0, 0, 65535, 65535, 65535, 0, 0⟩) := hw
    refine (set_walk H2.out.am hw2 hi3).mono ?_
    rintro e w3 ⟨rfl, hA3, hE3⟩
    have H3 := hideIt (H2.out.turnA hE3 hA3 rfl rfl)
    have HE3 := hideIt (HE2.out.trans hE3 HE2.out.size (fun _ _ q => Or.inl q))
    clear hA3 hE3
    have HO : Hid (∀ x, x = vacS s i 1 → Ms w3 A rb sb x tl ws) := fun x e => by
      have := H3.out
      rw [e]
      unfold vacS
      have hg' : ((s.hd i).gen + 1) % 4294967296 < 4294967295 := by first | exact hg | (intro q; have q2 : ((s.hd i).gen + 1) % 4294967296 < 4294967295 := q; omega)
      simp only [if_true]
      rw [if_pos hg']
      exact this
    go_wp2_with fail
    exact bodyPost_ret (v := .tuple #[]) (by simp [results, Tryz.results248]) rfl ⟨rfl, HO.out _ rfl, HE3.out⟩
  · have dr : decide (256 ≤ i ∧ i < 320) = true := by simp; omega
    go_wp2_with fail
    go_region
    go_wp2_with fail
    clear a0 a3 a4 a5 a6 a7 lv b0 b1 b2 b3 b4 b5 b6 b7 b8 t1 t2
    generalize (((((((((w1.setCell ⟨A, 2899, none⟩ (.int .i64 (wrap64 (s.lv 1 - 1)))).setCell ⟨A, i * 8, none⟩ (.int .u32 (((s.hd i).gen + 1) % 4294967296))).setCell ⟨A, i * 8 + 1, none⟩ (.int .u8 0)).setCell ⟨A, i * 8 + 2, none⟩ (.int .u16 0)).setCell ⟨A, i * 8 + 3, none⟩ (.int .u16 65535)).setCell ⟨A, i * 8 + 4, none⟩ (.int .u16 65535)).setCell ⟨A, i * 8 + 5, none⟩ (.int .u16 65535)).setCell ⟨A, i * 8 + 6, none⟩ (.int .u64 0)).setCell ⟨A, i * 8 + 7, none⟩ (.int .u64 0)).drew = w2 at *
    go_at_call 227
    refine (isRegion_walk i _).mono ?_
    rintro e w' ⟨rfl, hw'⟩
    obtain rfl := hw'.symm
    rw [dr]
    have c0 : w2.cell? ⟨A, 2907, none⟩ = some (.int .i64 s.c1) := (H2.out.am.cell 2907 (by omega)).trans (by rw [(mem_c _).2.1]; rfl)
    have f0 := H2.out.am.free 2907
    have H3 := hideIt (H2.out.setS (H2.out.am.setC1 (wrap64 (s.c1 + 1))) rfl rfl)
    have HE3 := hideIt (HE2.out.setA 2907 (.int .i64 (wrap64 (s.c1 + 1))))
    have HO : Hid (∀ x, x = vacS s i 1 → Ms (w2.setCell ⟨A, 2907, none⟩ (.int .i64 (wrap64 (s.c1 + 1)))) A rb sb x tl ws) := fun x e => by
      have := H3.out
      rw [e]
      unfold vacS
      have hg' : ¬ ((s.hd i).gen + 1) % 4294967296 < 4294967295 := by first | exact hg | (intro q; have q2 : ((s.hd i).gen + 1) % 4294967296 < 4294967295 := q; omega)
      simp only [if_true]
      rw [if_neg hg', if_pos h1]
      exact this
    go_wp2_with fail
    exact bodyPost_ret (v := .tuple #[]) (by simp [results, Tryz.results248]) rfl ⟨rfl, HO.out _ rfl, HE3.out⟩
end
end Go.Proofs.Qxb6500847aGreatDoor.Os
