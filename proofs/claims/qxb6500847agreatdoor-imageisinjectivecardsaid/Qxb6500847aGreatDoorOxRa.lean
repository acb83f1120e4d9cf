/-
  place, exactly.
-/
import Derived.Test.Qxb6500847aGreatDoorOxY
import Derived.Test.Qxb6500847aGreatDoorOxC
import Derived.Test.Qxb6500847aGreatDoorOsRa
namespace Go.Proofs.Qxb6500847aGreatDoor.Os
open Go.RowKit FloorA
set_option maxRecDepth 100000
/-- How many objects of size z fit between st and E. -/
def spN (E st z : Nat) : Nat := if st < E then (E - st) / z else 0
section
variable {A : Nat} {rb sb : Nat → Nat} {s : Av} {tl : Nat → List Int} {ws : Nat → Nat → Nat → Int} {w : World} {L : Nat → List Nat} {n p c i : Nat}
/-- The code with which place refuses. -/
def plC (s : Av) (i : Nat) (g : Int) (t bt : Nat) : Int := if Live s i g ∧ (s.hd i).typ = 1 then szC t bt else if Live s i g then 3 else stale i g
def PlX (s : Av) (i : Nat) (g : Int) (t bt : Nat) (w : World) (e : Ending) (w' : World) : Prop :=
  Below w.heap.size w w' ∧ ((Live s i g ∧ (s.hd i).typ = 1 ∧ szC t bt = 0 ∧ 1 ≤ t ∧ t ≤ 7 ∧ ∃ T E : Nat, (s.rg (i - 256)).top = (T : Int) ∧ (s.hd i).bas + (s.hd i).siz = (E : Int) ∧ szQ t bt ≤ 47 ∧ (t = 1 → 4 ≤ szQ t bt) ∧ e = .returned (.tuple #[.agg #[.int .u16 (i : Int), .int .u8 (t : Int), .int .u64 ((2 ^ szQ t bt : Nat) : Int), .int .u64 ((alU T (2 ^ szQ t bt) : Nat) : Int), .int .u64 ((spN E (alU T (2 ^ szQ t bt)) (2 ^ szQ t bt) : Nat) : Int)], .nilIface])) ∨
    (∃ v c, e = .returned (.tuple #[.agg #[.int .u16 0, .int .u8 0, .int .u64 0, .int .u64 0, .int .u64 0], v]) ∧ c ≠ 0 ∧ IsErr w' v c ∧ c = plC s i g t bt))
set_option maxHeartbeats 8000000 in
theorem place_x (h : Ms w A rb sb s tl ws) (hI : IV s tl L n) (hX : IX s tl L n) (hK : Kd w) (kl : 1 < w.heap.size) (i : Nat) (g : Int) {t bt : Nat} (ht : t < 256) (hbt : bt < 256) (c : ByteArray) :
    Calls Tryz.prog 130 #[.pointer (some ⟨A, 0, none⟩), .string c, .agg #[.int .u16 (i : Int), .int .u32 g], .int .u8 (t : Int), .int .u8 (bt : Int)] w (PlX s i g t bt w) := by
  have bB := two_below (w := w) (.cells #[.int .u16 (i : Int), .int .u32 g] 32) (.cells #[.int .u16 0, .int .u8 0, .int .u64 0, .int .u64 0, .int .u64 0] 267)
  have hz : ((w.alloc (.cells #[.int .u16 (i : Int), .int .u32 g] 32)).alloc (.cells #[.int .u16 0, .int .u8 0, .int .u64 0, .int .u64 0, .int .u64 0] 267)).heap[w.heap.size]? = some (.cells #[.int .u16 (i : Int), .int .u32 g] 32 (0, 0)) := (heap_alloc_old _ _ (by simp)).trans (heap_new _ _)
  have hz2 : ((w.alloc (.cells #[.int .u16 (i : Int), .int .u32 g] 32)).alloc (.cells #[.int .u16 0, .int .u8 0, .int .u64 0, .int .u64 0, .int .u64 0] 267)).heap[w.heap.size + 1]? = some (.cells #[.int .u16 0, .int .u8 0, .int .u64 0, .int .u64 0, .int .u64 0] 267 (0, 0)) := new_at _ _ (Deep.nblk_alloc _ _)
  have HM := hideIt (h.below bB)
  have HB := hideIt bB
  have HI := hideIt hI
  have HXx := hideIt hX
  have HK : Hid (Kd w) := hK
  clear h hI bB hK hX
  go_enter Tryz.func130, Tryz.ntmps130
  go_wp2_with fail
  generalize (w.alloc (.cells #[.int .u16 (i : Int), .int .u32 g] 32)).alloc (.cells #[.int .u16 0, .int .u8 0, .int .u64 0, .int .u64 0, .int .u64 0] 267) = w0 at *
  go_at_call 44
  refine (resolveRegion_x HM.out.am i g c).mono ?_
  rintro e w1 ⟨hb1, hh⟩
  have HB1 := hideIt (Below.thr HB.out hb1)
  have HM1 := hideIt (HM.out.below hb1)
  have l0 : w.heap.size + 1 < w1.heap.size := Nat.lt_of_lt_of_le (heap_lt hz2) hb1.size
  have hx := (hb1.block w.heap.size (heap_lt hz)).trans hz
  have hx2 := (hb1.block (w.heap.size + 1) (heap_lt hz2)).trans hz2
  obtain ⟨x0, x1, _, _⟩ := two_cells hx
  have HX := hideIt hx
  have HX2 := hideIt hx2
  have ht5 := there_of hx2 5 (by simp)
  obtain ⟨y0, y1, y2, y3, y4, g0, g1, g2, g3, g4⟩ := five hx2
  have HT5 := hideIt ht5
  clear hb1 hz hz2 hx hx2 ht5
  rcases hh with ⟨hl, h1, rfl⟩ | ⟨hl, v, rfl, code, hc, hv, hs⟩
  · have HL := hideIt hl
    have HK1 := hideIt (HK.out.below HB1.out kl)
    have i1 : 256 ≤ i := by
      obtain ⟨k, ek, k7, kk⟩ := HI.out.ge.typ i hl.1
      have : k = 1 := by omega
      exact (kk (by omega)).1 this
    have i2 : i < 320 := hl.1
    have H1 : Hid ((s.hd i).typ = 1) := h1
    clear hl h1
    go_wp2_with fail
    go_at_call 15
    refine (SizeOf_x HK1.out ht hbt).mono ?_
    rintro e w2 ⟨hw2, hh⟩
    obtain rfl := hw2.symm
    clear hw2
    rcases hh with ⟨hc0, rfl⟩ | ⟨hz0, t1, t7, q47, q4, rfl⟩
    · obtain ⟨c0, hce⟩ : ∃ c, szC t bt = c := ⟨_, rfl⟩
      rw [hce] at hc0 ⊢
      have HCE := hideIt hce
      clear hce
      have kn : (c0 != 0) = true := by rw [bne_iff_ne]; exact hc0
      have HK2 : Hid (Kd w1.drew) := (show Kd w1 from HK1.out)
      have HC0 := hideIt hc0
      clear hc0
      go_wp2_with fail
      go_region_with (first | (go_at_call 133; refine (TypeName_walk (by first | exact HK2.out | exact HK1.out) ht).mono ?_; rintro e w' ⟨⟨nm, nms, rfl⟩, hw'⟩; obtain rfl := hw'.symm) | (go_at_call 123; refine (refuse_walk _ _ _ _ _ _).mono ?_; rintro e w3 ⟨v, rfl, hv, hb⟩; have HZ3 := hideIt ((hb.block (w.heap.size + 1) (by exact heap_lt HX2.out)).trans (by exact HX2.out)); obtain ⟨z0, z1, z2, z3, z4, k0, k1, k2, k3, k4⟩ := five HZ3.out))
      all_goals
        have hn8 : ∀ c, w3.cell? ⟨w.heap.size + 1, 0, none⟩ ≠ some (.int .u8 c) := fun c q => by rw [z0] at q; cases q
        have HF : Hid (PlX s i g t bt w (.returned (.tuple #[.agg #[.int .u16 0, .int .u8 0, .int .u64 0, .int .u64 0, .int .u64 0], v])) (w3.setCells (w.heap.size + 1) 0 (pl5 0 0 0 0 0))) := ⟨Below.cells (Below.thr (Below.thr HB1.out (below_d _)) hb) (by omega) _ _, Or.inr ⟨_, c0, rfl, HC0.out, IsErr.cells hv hn8 _ _, by unfold plC; rw [if_pos ⟨HL.out, H1.out⟩]; exact HCE.out.symm⟩⟩
        have HL5 := hideIt (World.rangeAt_setCells_same w3 (w.heap.size + 1) 0 (pl5 0 0 0 0 0) (there_of HZ3.out 5 (by simp)))
        clear hv hb hn8
        go_wp2_with fail
        exact bodyPost_ret (results_two (by exact Tryz.results130) _ _ (w.heap.size + 1) _ _ (by rfl) (by rfl) (load267 HL5.out)) rfl HF.out
    · have hreg : IsReg s i := ⟨i1, i2, H1.out⟩
      obtain ⟨lb, lz, le⟩ := HXx.out.gm.lim i i2 HL.out.2.2.1
      obtain ⟨ch, ct⟩ := HXx.out.gm.chn i hreg
      have cl := ch.le (HXx.out.pos HI.out hreg)
      obtain ⟨T, hT⟩ : ∃ T : Nat, (s.rg (i - 256)).top = (T : Int) := ⟨_, (Int.toNat_of_nonneg (by omega)).symm⟩
      obtain ⟨E, hE⟩ : ∃ E : Nat, (s.hd i).bas + (s.hd i).siz = (E : Int) := ⟨_, (Int.toNat_of_nonneg (by omega)).symm⟩
      have hwE : IntKind.u64.wrap ((s.hd i).bas + (s.hd i).siz) = (E : Int) := by rw [hE]; exact u64_same (by omega) (by omega)
      have E48 : E ≤ 281474976710656 := by omega
      have T48 : T ≤ 281474976710656 := by omega
      obtain ⟨q, hqe⟩ : ∃ q, szQ t bt = q := ⟨_, rfl⟩
      rw [hqe] at q47 q4 ⊢
      have HPL : Hid (∀ (w3 : World) (sp : Int), Below w.heap.size w w3 → sp = (spN E (alU T (2 ^ q)) (2 ^ q) : Int) → PlX s i g t bt w (.returned (.tuple #[.agg #[.int .u16 (i : Int), .int .u8 (t : Int), .int .u64 ((2 ^ q : Nat) : Int), .int .u64 ((alU T (2 ^ q) : Nat) : Int), .int .u64 sp], .nilIface])) w3) := fun w3 sp a1 a2 => ⟨a1, Or.inl ⟨HL.out, H1.out, hz0, t1, t7, T, E, hT, hE, by rw [hqe]; exact ⟨q47, q4, by rw [a2]⟩⟩⟩
      have HAl := hideIt (fun W => alignUp_x T q T48 q47 W)
      have al48 : alU T (2 ^ q) < T + 2 ^ q := (alU_facts (Nat.two_pow_pos q)).2.1
      clear ch ct cl lb lz le hreg hE hqe q4 hz0
      have z1 : 1 ≤ 2 ^ q := Nat.one_le_two_pow
      have z2 : 2 ^ q ≤ 2 ^ 47 := Nat.pow_le_pow_right (by decide) q47
      rw [show (2 : Nat) ^ 47 = 140737488355328 from rfl] at z2
      generalize alU T (2 ^ q) = stN at *
      generalize 2 ^ q = z at *
      have e3 := HM1.out.am.rgc (i := i - 256) (f := 3) (by omega) (by omega)
      simp only [rgC] at e3
      rw [hT] at e3
      clear hT
      have la := HM1.out.am.lt
      have l00 : w.heap.size < w1.heap.size := by omega
      go_wp2_with fail
      go_cut [16] (fun v wx => ∃ (r2 : Nat), v = .pointer (some ⟨r2, 0, none⟩) ∧ w1.heap.size ≤ r2 ∧ Below w1.heap.size w1 wx ∧ wx.heap[r2]? = some (.cells #[.int .u16 (i : Int), .int .u8 (t : Int), .int .u64 (z : Int), .int .u64 (stN : Int), .int .u64 0] 267 (0, 0)))
      case first =>
        go_region_held3 (fun w' => w'.cell? ⟨w.heap.size, 0, none⟩ = some (.int .u16 (i : Int)) ∧ w'.cell? ⟨A, 2565 + (i - 256) * 4 + 3, none⟩ = some (.int .u64 (T : Int))) (go_keep)
          (first | (go_at_call 45; refine (body_walk A i1 i2 _).mono ?_; rintro e w' ⟨rfl, hw'⟩; obtain rfl := hw'.symm) | (go_at_call 239; refine (HAl.out _).mono ?_; rintro e w' ⟨rfl, hw'⟩; obtain rfl := hw'.symm))
        all_goals (try go_wp2_with fail)
        all_goals go_meet
        all_goals exact ⟨_, rfl, Nat.le_refl _, Below.thr (alloc_below _) (below_d _), by exact heap_new _ _⟩
      case rest =>
        obtain ⟨r2, e16, r2l, hbc, hzr⟩ := hcut
        subst e16
        obtain ⟨st, hst⟩ : ∃ x : Int, x = (stN : Int) := ⟨_, rfl⟩
        rw [← hst] at hzr HPL
        have st1 : 0 ≤ st := by omega
        have st2 : st < 18446744073709551616 := by omega
        have HST := hideIt hst
        clear hst
        have HB2 := hideIt (Below.thr HB1.out hbc)
        have HM2 := hideIt (HM1.out.below hbc)
        have HZR := hideIt hzr
        have HX3 := hideIt ((hbc.block (w.heap.size + 1) (by omega)).trans HX2.out)
        have r2n : ¬ r2 = w.heap.size + 1 := by omega
        have r2m : ¬ w.heap.size + 1 = r2 := by omega
        obtain ⟨b0, b1, b2, b3, b4, f0, f1, f2, f3, f4⟩ := five hzr
        obtain ⟨a0, a1, a2, a3, a4, j0, j1, j2, j3, j4⟩ := five HX3.out
        have HE := hideIt (end_walk HM2.out.am i2)
        rw [hwE] at HE
        clear hwE
        obtain ⟨en, hen⟩ : ∃ x : Int, x = (E : Int) := ⟨_, rfl⟩
        rw [← hen] at HE
        have en0 : 0 ≤ en := by omega
        have en1 : en < 18446744073709551616 := by omega
        have HEN := hideIt hen
        clear hen
        have HFn : Hid (∀ (w3 : World) (sp : Int), Below w.heap.size w w3 → sp = (spN E stN z : Int) → PlX s i g t bt w (.returned (.tuple #[.agg #[.int .u16 (i : Int), .int .u8 (t : Int), .int .u64 (z : Int), .int .u64 st, .int .u64 sp], .nilIface])) w3) := fun w3 sp a1 a2 => HPL.out w3 sp a1 a2
        clear hbc hzr y0 y1 y2 y3 y4 g0 g1 g2 g3 g4 x0 x1 e3
        by_cases hse : st < en
        · have hsub : IntKind.u64.wrap (en - st) = en - st := by unfold IntKind.wrap; simp [IntKind.bits, IntKind.signed]; omega
          have hz0 : (0 : Int) < (z : Int) := by omega
          have q0 : 0 ≤ (en - st) / (z : Int) := Int.ediv_nonneg (by omega) (by omega)
          have q1 : (en - st) / (z : Int) < 18446744073709551616 := Int.lt_of_le_of_lt (Int.ediv_le_self _ (by omega)) (by omega)
          have HT6 := hideIt (World.there_setCells (there_of HX3.out 5 (by simp)) r2 4 [.int .u64 ((en - st) / (z : Int))])
          have HB6 := hideIt (Below.cells (R := r2) HB2.out (by omega) [.int .u64 ((en - st) / (z : Int))] 4)
          obtain ⟨k1, k2⟩ := pl_end (R := w.heap.size + 1) HT6.out HB6.out (by omega) (i : Int) (t : Int) (z : Int) st ((en - st) / (z : Int))
          obtain ⟨W4, hW4⟩ : ∃ W, W = ((((((wc.setCell ⟨r2, 4, none⟩ (.int .u64 ((en - st) / (z : Int)))).setCell ⟨w.heap.size + 1, 0, none⟩ (.int .u16 (i : Int))).setCell ⟨w.heap.size + 1, 1, none⟩ (.int .u8 (t : Int))).setCell ⟨w.heap.size + 1, 2, none⟩ (.int .u64 (z : Int))).setCell ⟨w.heap.size + 1, 3, none⟩ (.int .u64 st)).setCell ⟨w.heap.size + 1, 4, none⟩ (.int .u64 ((en - st) / (z : Int)))).drew := ⟨_, rfl⟩
          have HK1 : Hid (W4.rangeAt (w.heap.size + 1) 0 (pl5 (i : Int) (t : Int) (z : Int) st ((en - st) / (z : Int)))) := by rw [hW4]; exact k1
          have HK2 : Hid (PlX s i g t bt w (.returned (.tuple #[.agg #[.int .u16 (i : Int), .int .u8 (t : Int), .int .u64 (z : Int), .int .u64 st, .int .u64 ((en - st) / (z : Int))], .nilIface])) W4) := HFn.out W4 _ (by rw [hW4]; exact k2) (by
            have a := HST.out
            have c := HEN.out
            unfold spN
            rw [if_pos (by omega), a, c, Int.natCast_ediv, Int.ofNat_sub (by omega)])
          have HW4 := hideIt hW4
          clear k1 k2 hW4 HT6 HB6
          go_wp2_with fail
          go_at_call 47
          refine HE.out.mono ?_
          rintro e w3 ⟨rfl, hw3⟩
          subst hw3
          go_wp2_with fail
          rw [← HW4.out]
          exact bodyPost_ret (results_two (by exact Tryz.results130) _ _ (w.heap.size + 1) _ _ (by rfl) (by rfl) (load267 HK1.out)) rfl HK2.out
        · have hse' : ¬ st < en := hse
          obtain ⟨k1, k2⟩ := pl_end (R := w.heap.size + 1) (there_of HX3.out 5 (by simp)) HB2.out (by omega) (i : Int) (t : Int) (z : Int) st 0
          obtain ⟨W4, hW4⟩ : ∃ W, W = (((((wc.setCell ⟨w.heap.size + 1, 0, none⟩ (.int .u16 (i : Int))).setCell ⟨w.heap.size + 1, 1, none⟩ (.int .u8 (t : Int))).setCell ⟨w.heap.size + 1, 2, none⟩ (.int .u64 (z : Int))).setCell ⟨w.heap.size + 1, 3, none⟩ (.int .u64 st)).setCell ⟨w.heap.size + 1, 4, none⟩ (.int .u64 0)).drew := ⟨_, rfl⟩
          have HK1 : Hid (W4.rangeAt (w.heap.size + 1) 0 (pl5 (i : Int) (t : Int) (z : Int) st 0)) := by rw [hW4]; exact k1
          have HK2 : Hid (PlX s i g t bt w (.returned (.tuple #[.agg #[.int .u16 (i : Int), .int .u8 (t : Int), .int .u64 (z : Int), .int .u64 st, .int .u64 0], .nilIface])) W4) := HFn.out W4 _ (by rw [hW4]; exact k2) (by
            have a := HST.out
            have c := HEN.out
            unfold spN
            rw [if_neg (by omega)]
            rfl)
          have HW4 := hideIt hW4
          clear k1 k2 hW4
          go_wp2_with fail
          go_at_call 47
          refine HE.out.mono ?_
          rintro e w3 ⟨rfl, hw3⟩
          subst hw3
          go_wp2_with fail
          rw [← HW4.out]
          exact bodyPost_ret (results_two (by exact Tryz.results130) _ _ (w.heap.size + 1) _ _ (by rfl) (by rfl) (load267 HK1.out)) rfl HK2.out
  · obtain ⟨b, rfl, hbc⟩ := hv
    have hn8 : ∀ c, w1.cell? ⟨w.heap.size + 1, 0, none⟩ ≠ some (.int .u8 c) := fun c q => by rw [y0] at q; cases q
    have HE : Hid (IsErr (w1.setCells (w.heap.size + 1) 0 (pl5 0 0 0 0 0)) (.iface 212 (.pointer (some ⟨b, 0, none⟩))) code) := IsErr.cells ⟨b, rfl, hbc⟩ hn8 _ _
    have HF : Hid (PlX s i g t bt w (.returned (.tuple #[.agg #[.int .u16 0, .int .u8 0, .int .u64 0, .int .u64 0, .int .u64 0], .iface 212 (.pointer (some ⟨b, 0, none⟩))])) (w1.setCells (w.heap.size + 1) 0 (pl5 0 0 0 0 0))) := ⟨Below.cells HB1.out (by omega) _ _, Or.inr ⟨_, code, rfl, hc, HE.out, by unfold plC; rw [if_neg hl]; exact hs⟩⟩
    have HL := hideIt (World.rangeAt_setCells_same w1 (w.heap.size + 1) 0 (pl5 0 0 0 0 0) HT5.out)
    clear hbc hl hs hc hn8
    go_wp2_with fail
    exact bodyPost_ret (results_two (by exact Tryz.results130) _ _ (w.heap.size + 1) _ _ (by rfl) (by rfl) (load267 HL.out)) rfl HF.out
end
end Go.Proofs.Qxb6500847aGreatDoor.Os
