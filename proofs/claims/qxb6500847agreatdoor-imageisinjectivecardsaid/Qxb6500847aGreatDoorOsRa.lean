/-
  place.
-/
import Derived.Test.Qxb6500847aGreatDoorOsR2
import Derived.Test.Qxb6500847aGreatDoorOsY
import Derived.BigQuiet
import Derived.Deep.RegionWith
namespace Go.Proofs.Qxb6500847aGreatDoor.Os
open Go.RowKit FloorA
set_option maxRecDepth 100000
section
variable {w w1 w2 : World} {R : Nat} {v : Value} {code : Int}
theorem Below.cells {B : Nat} (h : Below B w w1) (hR : B ≤ R) : ∀ (vs : List Value) (o : Nat), Below B w (w1.setCells R o vs) := by
  intro vs
  induction vs generalizing w1 with
  | nil => intro o; exact h
  | cons v r ih => intro o; exact ih (h.setCell (p := ⟨R, o, none⟩) hR v) (o + 1)
theorem IsErr.cells (h : IsErr w v code) (hR : ∀ c, w.cell? ⟨R, 0, none⟩ ≠ some (.int .u8 c)) (vs : List Value) (o : Nat) : IsErr (w.setCells R o vs) v code := by
  obtain ⟨b, e, hc⟩ := h
  have hb : b ≠ R := fun q => hR code (by rw [← q]; exact hc)
  exact ⟨b, e, by rw [World.cell?_setCells_out R _ _ _ _ (fun q _ => absurd q (fun q => hb q))]; exact hc⟩
theorem there_of {b : Nat} {cs : Array Value} {t : TypeId} (h : w.heap[b]? = some (.cells cs t (0, 0))) (n : Nat) (hn : n ≤ cs.size) : w.there b 0 n := fun j hj => by
  rw [Nat.zero_add, box_cell h j]
  refine ⟨?_, by simp [World.frozen?, h]⟩
  rw [Array.getElem?_eq_getElem (by omega)]
  rfl
theorem five {b : Nat} {v0 v1 v2 v3 v4 : Value} {t : TypeId} (h : w.heap[b]? = some (.cells #[v0, v1, v2, v3, v4] t (0, 0))) : w.cell? ⟨b, 0, none⟩ = some v0 ∧ w.cell? ⟨b, 1, none⟩ = some v1 ∧ w.cell? ⟨b, 2, none⟩ = some v2 ∧ w.cell? ⟨b, 3, none⟩ = some v3 ∧ w.cell? ⟨b, 4, none⟩ = some v4 ∧ w.frozen? ⟨b, 0, none⟩ = false ∧ w.frozen? ⟨b, 1, none⟩ = false ∧ w.frozen? ⟨b, 2, none⟩ = false ∧ w.frozen? ⟨b, 3, none⟩ = false ∧ w.frozen? ⟨b, 4, none⟩ = false := by
  refine ⟨box_cell h 0, box_cell h 1, box_cell h 2, box_cell h 3, box_cell h 4, ?_, ?_, ?_, ?_, ?_⟩ <;> simp [World.frozen?, h]
theorem rangeAt.drew {b o : Nat} {cs : List Value} (h : w.rangeAt b o cs) : w.drew.rangeAt b o cs := fun j v hv => (World.cell?_drew ..).trans (h j v hv)
def pl5 (a b c d e : Int) : List Value := [.int .u16 a, .int .u8 b, .int .u64 c, .int .u64 d, .int .u64 e]
theorem pl_end {wc : World} {B : Nat} (h5 : wc.there R 0 5) (hb : Below B w wc) (hR : B ≤ R) (a b c d e : Int) : (((((wc.setCell ⟨R, 0, none⟩ (.int .u16 a)).setCell ⟨R, 1, none⟩ (.int .u8 b)).setCell ⟨R, 2, none⟩ (.int .u64 c)).setCell ⟨R, 3, none⟩ (.int .u64 d)).setCell ⟨R, 4, none⟩ (.int .u64 e)).drew.rangeAt R 0 (pl5 a b c d e) ∧ Below B w (((((wc.setCell ⟨R, 0, none⟩ (.int .u16 a)).setCell ⟨R, 1, none⟩ (.int .u8 b)).setCell ⟨R, 2, none⟩ (.int .u64 c)).setCell ⟨R, 3, none⟩ (.int .u64 d)).setCell ⟨R, 4, none⟩ (.int .u64 e)).drew := by
  have l5 := rangeAt.drew (World.rangeAt_setCells_same wc R 0 (pl5 a b c d e) h5)
  have l6 := Below.cells hb hR (pl5 a b c d e) 0
  simp only [World.setCells, pl5, Nat.zero_add, Nat.reduceAdd] at l5 l6
  exact ⟨by simp only [pl5]; exact l5, l6.drew⟩
theorem load267 {a b c d e : Int} (h : w.rangeAt R 0 (pl5 a b c d e)) : (loadVar 267 ⟨R, 0, none⟩).run Tryz.prog w = .ok (.agg #[.int .u16 a, .int .u8 b, .int .u64 c, .int .u64 d, .int .u64 e]) w :=
  run_loadVar_mid w R 0 267 _ _ h Tryz.underlying267 rfl (by kernel_rfl)
end
section
variable {A : Nat} {rb sb : Nat → Nat} {s : Av} {tl : Nat → List Int} {ws : Nat → Nat → Nat → Int} {w : World} {L : Nat → List Nat} {n p c i : Nat}
/-- What place answers. -/
def PlPost (s : Av) (i : Nat) (g : Int) (t : Nat) (w : World) (e : Ending) (w' : World) : Prop :=
  Below w.heap.size w w' ∧ ((Live s i g ∧ (s.hd i).typ = 1 ∧ 1 ≤ t ∧ t ≤ 7 ∧ ∃ z st sp : Int, 0 ≤ z ∧ z < 18446744073709551616 ∧ 0 ≤ st ∧ st < 18446744073709551616 ∧ 0 ≤ sp ∧ sp < 18446744073709551616 ∧ e = .returned (.tuple #[.agg #[.int .u16 (i : Int), .int .u8 (t : Int), .int .u64 z, .int .u64 st, .int .u64 sp], .nilIface])) ∨ (∃ v code, e = .returned (.tuple #[.agg #[.int .u16 0, .int .u8 0, .int .u64 0, .int .u64 0, .int .u64 0], v]) ∧ code ≠ 0 ∧ IsErr w' v code ∧ (¬ Live s i g → code = stale i g)))
set_option maxHeartbeats 8000000 in
theorem place_walk (h : Ms w A rb sb s tl ws) (hI : IV s tl L n) (hK : Kd w) (kl : 1 < w.heap.size) (i : Nat) (g : Int) {t bt : Nat} (ht : t < 256) (hbt : bt < 256) (c : ByteArray) :
    Calls Tryz.prog 130 #[.pointer (some ⟨A, 0, none⟩), .string c, .agg #[.int .u16 (i : Int), .int .u32 g], .int .u8 (t : Int), .int .u8 (bt : Int)] w (PlPost s i g t w) := by
  have bB := two_below (w := w) (.cells #[.int .u16 (i : Int), .int .u32 g] 32) (.cells #[.int .u16 0, .int .u8 0, .int .u64 0, .int .u64 0, .int .u64 0] 267)
  have hz : ((w.alloc (.cells #[.int .u16 (i : Int), .int .u32 g] 32)).alloc (.cells #[.int .u16 0, .int .u8 0, .int .u64 0, .int .u64 0, .int .u64 0] 267)).heap[w.heap.size]? = some (.cells #[.int .u16 (i : Int), .int .u32 g] 32 (0, 0)) := (heap_alloc_old _ _ (by simp)).trans (heap_new _ _)
  have hz2 : ((w.alloc (.cells #[.int .u16 (i : Int), .int .u32 g] 32)).alloc (.cells #[.int .u16 0, .int .u8 0, .int .u64 0, .int .u64 0, .int .u64 0] 267)).heap[w.heap.size + 1]? = some (.cells #[.int .u16 0, .int .u8 0, .int .u64 0, .int .u64 0, .int .u64 0] 267 (0, 0)) := new_at _ _ (Deep.nblk_alloc _ _)
  have HM := hideIt (h.below bB)
  have HB := hideIt bB
  have HI := hideIt hI
  have HK : Hid (Kd w) := hK
  clear h hI bB hK
  go_enter Tryz.func130, Tryz.ntmps130
  go_wp2_with fail
  generalize (w.alloc (.cells #[.int .u16 (i : Int), .int .u32 g] 32)).alloc (.cells #[.int .u16 0, .int .u8 0, .int .u64 0, .int .u64 0, .int .u64 0] 267) = w0 at *
  go_at_call 44
  refine (resolveRegion_walk HM.out.am i g c).mono ?_
  rintro e w1 ⟨hb1, hh⟩
  have HB1 := hideIt (Below.thr HB.out hb1)
  have HM1 := hideIt (HM.out.below hb1)
  have l0 : w.heap.size + 1 < w1.heap.size := Nat.lt_of_lt_of_le (heap_lt hz2) hb1.size
  have hx := (hb1.block w.heap.size (heap_lt hz)).trans hz
  have hx2 := (hb1.block (w.heap.size + 1) (heap_lt hz2)).trans hz2
  obtain ⟨x0, x1, _, _⟩ := two_cells hx
  have HX := hideIt hx
  have HX2 := hideIt hx2
  have ht5 := there_of hx2 5 (by simp)
  obtain ⟨y0, y1, y2, y3, y4, g0, g1, g2, g3, g4⟩ := five hx2
  have HT5 := hideIt ht5
  clear hb1 hz hz2 hx hx2 ht5
  rcases hh with ⟨hl, h1, rfl⟩ | ⟨hl, v, rfl, code, hc, hv, hs⟩
  · have HL := hideIt hl
    have HK1 := hideIt (HK.out.below HB1.out kl)
    have i1 : 256 ≤ i := by
      obtain ⟨k, ek, k7, kk⟩ := HI.out.ge.typ i hl.1
      have : k = 1 := by omega
      exact (kk (by omega)).1 this
    have i2 : i < 320 := hl.1
    have H1 : Hid ((s.hd i).typ = 1) := h1
    clear hl h1
    go_wp2_with fail
    go_at_call 15
    refine (SizeOf_walk HK1.out ht hbt).mono ?_
    rintro e w2 ⟨hw2, hh⟩
    obtain rfl := hw2.symm
    clear hw2
    rcases hh with ⟨c0, hc0, rfl⟩ | ⟨t1, t7, q, q47, _, rfl⟩
    · have kn : (c0 != 0) = true := by rw [bne_iff_ne]; exact hc0
      have HK2 : Hid (Kd w1.drew) := (show Kd w1 from HK1.out)
      have HC0 := hideIt hc0
      clear hc0
      go_wp2_with fail
      go_region_with (first | (go_at_call 133; refine (TypeName_walk (by first | exact HK2.out | exact HK1.out) ht).mono ?_; rintro e w' ⟨⟨nm, nms, rfl⟩, hw'⟩; obtain rfl := hw'.symm) | (go_at_call 123; refine (refuse_walk _ _ _ _ _ _).mono ?_; rintro e w3 ⟨v, rfl, hv, hb⟩; have HZ3 := hideIt ((hb.block (w.heap.size + 1) (by exact heap_lt HX2.out)).trans (by exact HX2.out)); obtain ⟨z0, z1, z2, z3, z4, k0, k1, k2, k3, k4⟩ := five HZ3.out))
      all_goals
        have hn8 : ∀ c, w3.cell? ⟨w.heap.size + 1, 0, none⟩ ≠ some (.int .u8 c) := fun c q => by rw [z0] at q; cases q
        have HF : Hid (PlPost s i g t w (.returned (.tuple #[.agg #[.int .u16 0, .int .u8 0, .int .u64 0, .int .u64 0, .int .u64 0], v])) (w3.setCells (w.heap.size + 1) 0 (pl5 0 0 0 0 0))) := ⟨Below.cells (Below.thr (Below.thr HB1.out (below_d _)) hb) (by omega) _ _, Or.inr ⟨_, c0, rfl, HC0.out, IsErr.cells hv hn8 _ _, fun q => absurd HL.out q⟩⟩
        have HL5 := hideIt (World.rangeAt_setCells_same w3 (w.heap.size + 1) 0 (pl5 0 0 0 0 0) (there_of HZ3.out 5 (by simp)))
        clear hv hb hn8
        go_wp2_with fail
        exact bodyPost_ret (results_two (by exact Tryz.results130) _ _ (w.heap.size + 1) _ _ (by rfl) (by rfl) (load267 HL5.out)) rfl HF.out
    · have z1 : 1 ≤ 2 ^ q := Nat.one_le_two_pow
      have z2 : 2 ^ q ≤ 2 ^ 47 := Nat.pow_le_pow_right (by decide) q47
      rw [show (2 : Nat) ^ 47 = 140737488355328 from rfl] at z2
      generalize 2 ^ q = z at *
      have e3 := HM1.out.am.rgc (i := i - 256) (f := 3) (by omega) (by omega)
      simp only [rgC] at e3
      generalize (s.rg (i - 256)).top = tp at *
      have la := HM1.out.am.lt
      have l00 : w.heap.size < w1.heap.size := by omega
      go_wp2_with fail
      go_cut [16] (fun v wx => ∃ (st : Int) (r2 : Nat), 0 ≤ st ∧ st < 18446744073709551616 ∧ v = .pointer (some ⟨r2, 0, none⟩) ∧ w1.heap.size ≤ r2 ∧ Below w1.heap.size w1 wx ∧ wx.heap[r2]? = some (.cells #[.int .u16 (i : Int), .int .u8 (t : Int), .int .u64 (z : Int), .int .u64 st, .int .u64 0] 267 (0, 0)))
      case first =>
        go_region_held3 (fun w' => w'.cell? ⟨w.heap.size, 0, none⟩ = some (.int .u16 (i : Int)) ∧ w'.cell? ⟨A, 2565 + (i - 256) * 4 + 3, none⟩ = some (.int .u64 tp)) (go_keep)
          (first | (go_at_call 45; refine (body_walk A i1 i2 _).mono ?_; rintro e w' ⟨rfl, hw'⟩; obtain rfl := hw'.symm) | (go_at_call 239; refine (alignUp_walk _ _ _).mono ?_; rintro e w' ⟨⟨st, st1, st2, rfl⟩, hw'⟩; obtain rfl := hw'.symm))
        all_goals (try go_wp2_with fail)
        all_goals go_meet
        all_goals exact ⟨st, _, st1, st2, rfl, Nat.le_refl _, Below.thr (alloc_below _) (below_d _), by exact heap_new _ _⟩
      case rest =>
        obtain ⟨st, r2, st1, st2, e16, r2l, hbc, hzr⟩ := hcut
        subst e16
        have HB2 := hideIt (Below.thr HB1.out hbc)
        have HM2 := hideIt (HM1.out.below hbc)
        have HZR := hideIt hzr
        have HX3 := hideIt ((hbc.block (w.heap.size + 1) (by omega)).trans HX2.out)
        have r2n : ¬ r2 = w.heap.size + 1 := by omega
        have r2m : ¬ w.heap.size + 1 = r2 := by omega
        obtain ⟨b0, b1, b2, b3, b4, f0, f1, f2, f3, f4⟩ := five hzr
        obtain ⟨a0, a1, a2, a3, a4, j0, j1, j2, j3, j4⟩ := five HX3.out
        have HE := hideIt (end_walk HM2.out.am i2)
        obtain ⟨en0, en1⟩ := wrap_u64_bd ((s.hd i).bas + (s.hd i).siz)
        generalize IntKind.u64.wrap ((s.hd i).bas + (s.hd i).siz) = en at *
        have HFn : Hid (∀ (w3 : World) (sp : Int), Below w.heap.size w w3 → 0 ≤ sp → sp < 18446744073709551616 → PlPost s i g t w (.returned (.tuple #[.agg #[.int .u16 (i : Int), .int .u8 (t : Int), .int .u64 (z : Int), .int .u64 st, .int .u64 sp], .nilIface])) w3) := fun w3 sp a1 a2 a3 => ⟨a1, Or.inl ⟨HL.out, H1.out, t1, t7, z, st, sp, by omega, by omega, st1, st2, a2, a3, rfl⟩⟩
        clear hbc hzr y0 y1 y2 y3 y4 g0 g1 g2 g3 g4 x0 x1 e3
        by_cases hse : st < en
        · have hsub : IntKind.u64.wrap (en - st) = en - st := by unfold IntKind.wrap; simp [IntKind.bits, IntKind.signed]; omega
          have hz0 : (0 : Int) < (z : Int) := by omega
          have q0 : 0 ≤ (en - st) / (z : Int) := Int.ediv_nonneg (by omega) (by omega)
          have q1 : (en - st) / (z : Int) < 18446744073709551616 := Int.lt_of_le_of_lt (Int.ediv_le_self _ (by omega)) (by omega)
          have HT6 := hideIt (World.there_setCells (there_of HX3.out 5 (by simp)) r2 4 [.int .u64 ((en - st) / (z : Int))])
          have HB6 := hideIt (Below.cells (R := r2) HB2.out (by omega) [.int .u64 ((en - st) / (z : Int))] 4)
          obtain ⟨k1, k2⟩ := pl_end (R := w.heap.size + 1) HT6.out HB6.out (by omega) (i : Int) (t : Int) (z : Int) st ((en - st) / (z : Int))
          obtain ⟨W4, hW4⟩ : ∃ W, W = ((((((wc.setCell ⟨r2, 4, none⟩ (.int .u64 ((en - st) / (z : Int)))).setCell ⟨w.heap.size + 1, 0, none⟩ (.int .u16 (i : Int))).setCell ⟨w.heap.size + 1, 1, none⟩ (.int .u8 (t : Int))).setCell ⟨w.heap.size + 1, 2, none⟩ (.int .u64 (z : Int))).setCell ⟨w.heap.size + 1, 3, none⟩ (.int .u64 st)).setCell ⟨w.heap.size + 1, 4, none⟩ (.int .u64 ((en - st) / (z : Int)))).drew := ⟨_, rfl⟩
          have HK1 : Hid (W4.rangeAt (w.heap.size + 1) 0 (pl5 (i : Int) (t : Int) (z : Int) st ((en - st) / (z : Int)))) := by rw [hW4]; exact k1
          have HK2 : Hid (PlPost s i g t w (.returned (.tuple #[.agg #[.int .u16 (i : Int), .int .u8 (t : Int), .int .u64 (z : Int), .int .u64 st, .int .u64 ((en - st) / (z : Int))], .nilIface])) W4) := HFn.out W4 _ (by rw [hW4]; exact k2) q0 q1
          have HW4 := hideIt hW4
          clear k1 k2 hW4 HT6 HB6
          go_wp2_with fail
          go_at_call 47
          refine HE.out.mono ?_
          rintro e w3 ⟨rfl, hw3⟩
          subst hw3
          go_wp2_with fail
          rw [← HW4.out]
          exact bodyPost_ret (results_two (by exact Tryz.results130) _ _ (w.heap.size + 1) _ _ (by rfl) (by rfl) (load267 HK1.out)) rfl HK2.out
        · have hse' : ¬ st < en := hse
          obtain ⟨k1, k2⟩ := pl_end (R := w.heap.size + 1) (there_of HX3.out 5 (by simp)) HB2.out (by omega) (i : Int) (t : Int) (z : Int) st 0
          obtain ⟨W4, hW4⟩ : ∃ W, W = (((((wc.setCell ⟨w.heap.size + 1, 0, none⟩ (.int .u16 (i : Int))).setCell ⟨w.heap.size + 1, 1, none⟩ (.int .u8 (t : Int))).setCell ⟨w.heap.size + 1, 2, none⟩ (.int .u64 (z : Int))).setCell ⟨w.heap.size + 1, 3, none⟩ (.int .u64 st)).setCell ⟨w.heap.size + 1, 4, none⟩ (.int .u64 0)).drew := ⟨_, rfl⟩
          have HK1 : Hid (W4.rangeAt (w.heap.size + 1) 0 (pl5 (i : Int) (t : Int) (z : Int) st 0)) := by rw [hW4]; exact k1
          have HK2 : Hid (PlPost s i g t w (.returned (.tuple #[.agg #[.int .u16 (i : Int), .int .u8 (t : Int), .int .u64 (z : Int), .int .u64 st, .int .u64 0], .nilIface])) W4) := HFn.out W4 _ (by rw [hW4]; exact k2) (by omega) (by omega)
          have HW4 := hideIt hW4
          clear k1 k2 hW4
          go_wp2_with fail
          go_at_call 47
          refine HE.out.mono ?_
          rintro e w3 ⟨rfl, hw3⟩
          subst hw3
          go_wp2_with fail
          rw [← HW4.out]
          exact bodyPost_ret (results_two (by exact Tryz.results130) _ _ (w.heap.size + 1) _ _ (by rfl) (by rfl) (load267 HK1.out)) rfl HK2.out
  · obtain ⟨b, rfl, hbc⟩ := hv
    have hn8 : ∀ c, w1.cell? ⟨w.heap.size + 1, 0, none⟩ ≠ some (.int .u8 c) := fun c q => by rw [y0] at q; cases q
    have HE : Hid (IsErr (w1.setCells (w.heap.size + 1) 0 (pl5 0 0 0 0 0)) (.iface 212 (.pointer (some ⟨b, 0, none⟩))) code) := IsErr.cells ⟨b, rfl, hbc⟩ hn8 _ _
    have HF : Hid (PlPost s i g t w (.returned (.tuple #[.agg #[.int .u16 0, .int .u8 0, .int .u64 0, .int .u64 0, .int .u64 0], .iface 212 (.pointer (some ⟨b, 0, none⟩))])) (w1.setCells (w.heap.size + 1) 0 (pl5 0 0 0 0 0))) := ⟨Below.cells HB1.out (by omega) _ _, Or.inr ⟨_, code, rfl, hc, HE.out, hs⟩⟩
    have HL := hideIt (World.rangeAt_setCells_same w1 (w.heap.size + 1) 0 (pl5 0 0 0 0 0) HT5.out)
    clear hbc hl hs hc hn8
    go_wp2_with fail
    exact bodyPost_ret (results_two (by exact Tryz.results130) _ _ (w.heap.size + 1) _ _ (by rfl) (by rfl) (load267 HL.out)) rfl HF.out
end
end Go.Proofs.Qxb6500847aGreatDoor.Os
