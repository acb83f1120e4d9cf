/-
  New, the walk.
-/
import Derived.Test.Qxb6500847aGreatDoorOsNb
import Derived.Test.Qxb6500847aGreatDoorOsRa
namespace Go.Proofs.Qxb6500847aGreatDoor.Os
open Go.RowKit FloorA
set_option maxRecDepth 100000
theorem z144_size : Tryz.zeroCells144.size = 2910 := by
  have := congrArg List.length z144
  rw [Array.length_toList, List.length_map, List.length_range] at this
  exact this
theorem set12 {z : Array Value} (hz : z.size = 2910) (v0 v1 v2 v3 v4 v5 v6 v7 v8 v9 v10 v11 : Value) (o : Nat) : ((((((((((((z.setIfInBounds 2886 v0).setIfInBounds 2887 v1).setIfInBounds 2888 v2).setIfInBounds 2889 v3).setIfInBounds 2890 v4).setIfInBounds 2891 v5).setIfInBounds 2892 v6).setIfInBounds 2893 v7).setIfInBounds 2894 v8).setIfInBounds 2895 v9).setIfInBounds 2896 v10).setIfInBounds 2897 v11)[o]? = if 2886 ≤ o ∧ o < 2898 then [v0, v1, v2, v3, v4, v5, v6, v7, v8, v9, v10, v11][o - 2886]? else z[o]? := by
  by_cases h : 2886 ≤ o ∧ o < 2898
  · rw [if_pos h]
    have : o = 2886 ∨ o = 2887 ∨ o = 2888 ∨ o = 2889 ∨ o = 2890 ∨ o = 2891 ∨ o = 2892 ∨ o = 2893 ∨ o = 2894 ∨ o = 2895 ∨ o = 2896 ∨ o = 2897 := by omega
    rcases this with rfl | rfl | rfl | rfl | rfl | rfl | rfl | rfl | rfl | rfl | rfl | rfl <;> simp [hz]
  · rw [if_neg h]
    rw [Array.getElem?_setIfInBounds_ne (by omega), Array.getElem?_setIfInBounds_ne (by omega), Array.getElem?_setIfInBounds_ne (by omega), Array.getElem?_setIfInBounds_ne (by omega), Array.getElem?_setIfInBounds_ne (by omega), Array.getElem?_setIfInBounds_ne (by omega), Array.getElem?_setIfInBounds_ne (by omega), Array.getElem?_setIfInBounds_ne (by omega), Array.getElem?_setIfInBounds_ne (by omega), Array.getElem?_setIfInBounds_ne (by omega), Array.getElem?_setIfInBounds_ne (by omega), Array.getElem?_setIfInBounds_ne (by omega)]
def pick6 (b0 b1 b2 b3 b4 b5 : Nat) : Nat → Nat
  | 0 => b0
  | 1 => b1
  | 2 => b2
  | 3 => b3
  | 4 => b4
  | _ => b5
def s00 (rb sb : Nat → Nat) : Av := { zS with tr := fun t => .slice (some ⟨rb t, 0, none⟩) (nR t) (nR t), ti := fun t => .slice (some ⟨sb t, 0, none⟩) (nR t) (nR t) }
theorem mem_s00 (rb sb : Nat → Nat) {o : Nat} (ho : ¬ (2886 ≤ o ∧ o < 2898)) : memOf (s00 rb sb) o = memOf zS o := by
  by_cases a : o < 2886
  · exact mem_lo zS (s00 rb sb) rfl rfl rfl rfl rfl a
  · have h1 : ¬ o < 2898 := by omega
    rw [mem_hi (by omega), mem_hi (by omega)]
    simp only [h1, if_false]
    rfl
theorem head8' {w : World} {A : Nat} {s : Av} (h : Am w A s) {i : Nat} (hi : i < 320) : Am ((((((((w.setCell ⟨A, i * 8, none⟩ (.int .u32 1)).setCell ⟨A, i * 8 + 1, none⟩ (.int .u8 0)).setCell ⟨A, i * 8 + 2, none⟩ (.int .u16 0)).setCell ⟨A, i * 8 + 3, none⟩ (.int .u16 65535)).setCell ⟨A, i * 8 + 4, none⟩ (.int .u16 65535)).setCell ⟨A, i * 8 + 5, none⟩ (.int .u16 65535)).setCell ⟨A, i * 8 + 6, none⟩ (.int .u64 0)).setCell ⟨A, i * 8 + 7, none⟩ (.int .u64 0)) A (s.setHd i hd0) := by
  have := h.head8 hi hd0
  simp only [World.setCells, Nat.add_assoc, Nat.reduceAdd, hdC, hd0] at this
  exact this
theorem below8 {w w0 : World} {A : Nat} (h : Below A w0 w) {i : Nat} : Below A w0 ((((((((w.setCell ⟨A, i * 8, none⟩ (.int .u32 1)).setCell ⟨A, i * 8 + 1, none⟩ (.int .u8 0)).setCell ⟨A, i * 8 + 2, none⟩ (.int .u16 0)).setCell ⟨A, i * 8 + 3, none⟩ (.int .u16 65535)).setCell ⟨A, i * 8 + 4, none⟩ (.int .u16 65535)).setCell ⟨A, i * 8 + 5, none⟩ (.int .u16 65535)).setCell ⟨A, i * 8 + 6, none⟩ (.int .u64 0)).setCell ⟨A, i * 8 + 7, none⟩ (.int .u64 0)) :=
  (((((((h.setCell (p := ⟨A, i * 8, none⟩) (Nat.le_refl _) _).setCell (p := ⟨A, i * 8 + 1, none⟩) (Nat.le_refl _) _).setCell (p := ⟨A, i * 8 + 2, none⟩) (Nat.le_refl _) _).setCell (p := ⟨A, i * 8 + 3, none⟩) (Nat.le_refl _) _).setCell (p := ⟨A, i * 8 + 4, none⟩) (Nat.le_refl _) _).setCell (p := ⟨A, i * 8 + 5, none⟩) (Nat.le_refl _) _).setCell (p := ⟨A, i * 8 + 6, none⟩) (Nat.le_refl _) _).setCell (p := ⟨A, i * 8 + 7, none⟩) (Nat.le_refl _) _
theorem reg4' {w : World} {A : Nat} {s : Av} (h : Am w A s) {i : Nat} (hi : i < 64) : Am ((((w.setCell ⟨A, 2565 + i * 4, none⟩ (.int .u16 65535)).setCell ⟨A, 2565 + i * 4 + 1, none⟩ (.int .u16 65535)).setCell ⟨A, 2565 + i * 4 + 2, none⟩ (.int .i64 0)).setCell ⟨A, 2565 + i * 4 + 3, none⟩ (.int .u64 0)) A (s.setRg i ⟨65535, 65535, 0, 0⟩) := by
  have := h.reg4 hi ⟨65535, 65535, 0, 0⟩
  simp only [World.setCells, rgC] at this
  exact this
theorem below4 {w w0 : World} {A : Nat} (h : Below A w0 w) {i : Nat} : Below A w0 ((((w.setCell ⟨A, 2565 + i * 4, none⟩ (.int .u16 65535)).setCell ⟨A, 2565 + i * 4 + 1, none⟩ (.int .u16 65535)).setCell ⟨A, 2565 + i * 4 + 2, none⟩ (.int .i64 0)).setCell ⟨A, 2565 + i * 4 + 3, none⟩ (.int .u64 0)) :=
  (((h.setCell (p := ⟨A, 2565 + i * 4, none⟩) (Nat.le_refl _) _).setCell (p := ⟨A, 2565 + i * 4 + 1, none⟩) (Nat.le_refl _) _).setCell (p := ⟨A, 2565 + i * 4 + 2, none⟩) (Nat.le_refl _) _).setCell (p := ⟨A, 2565 + i * 4 + 3, none⟩) (Nat.le_refl _) _
theorem fresh00 (rb sb : Nat → Nat) : Fresh (s00 rb sb) rb sb 0 := by
  refine ⟨fun j _ => ?_, fun x _ => ⟨fun q => ?_, fun q => absurd q (Nat.not_lt_zero _)⟩, fun x hx => absurd hx (Nat.not_lt_zero _), rfl, fun _ _ => rfl, fun _ _ => rfl, fun _ _ => rfl, rfl, rfl, rfl, rfl⟩
  · show 0 < 2 ^ 64
    decide
  · have : (0 : Nat).testBit (x % 64) = true := q
    simp at this
/-- The tables' blocks lie one behind the other. -/
theorem new_end {w w' : World} {A : Nat} {rb sb sq : Nat → Nat} {s : Av} (hm : ∀ t, t < 6 → sq t ≤ sq (t + 1)) (h0 : sq 0 = w.heap.size) (h6 : sq 6 = A) (hr : ∀ t, t < 6 → sq t ≤ rb t ∧ rb t < sq (t + 1) ∧ sq t ≤ sb t ∧ sb t < sq (t + 1) ∧ rb t ≠ sb t) (hA : Am w' A s) (hf : Fresh s rb sb 320) (hq : ∀ t, t < 6 → Tq t (rb t) (sb t) w') :
    (∀ b, Tz A rb sb b → w.heap.size ≤ b) ∧ Ms w' A rb sb s tl0 (fun _ _ _ => 0) := by
  have mono : ∀ b, b ≤ 6 → ∀ a, a ≤ b → sq a ≤ sq b := by
    intro b
    induction b with
    | zero => intro _ a ha; have : a = 0 := by omega
              rw [this]; exact Nat.le_refl _
    | succ b ih =>
      intro hb a ha
      by_cases e : a = b + 1
      · rw [e]; exact Nat.le_refl _
      · exact Nat.le_trans (ih (by omega) a (by omega)) (hm b (by omega))
  have ln : ∀ t, (tl0 t).length = nR t := fun t => by simp [tl0]
  have up : ∀ t u, t < u → u < 6 → sq (t + 1) ≤ sq u := fun t u a b => mono u (by omega) (t + 1) (by omega)
  refine ⟨?_, hA, hf.tr, fun t ht => by rw [hf.ti t ht, ln], fun t _ => Nat.le_of_eq (ln t), fun t ht => (hq t ht).row, fun t ht => (hq t ht).rfz, fun t ht j hj => ⟨_, (hq t ht).stk j hj, fun _ => by simp [tl0]⟩, fun t ht => (hq t ht).sfz, fun t ht => ?_, fun t u ht hu e => ?_, fun t u ht hu e => ?_, fun t u ht hu e => ?_⟩
  · rintro b (e | ⟨t, ht, e | e⟩)
    · have := mono 6 (Nat.le_refl _) 0 (by omega)
      omega
    · have := mono t (by omega) 0 (by omega)
      have := hr t ht
      omega
    · have := mono t (by omega) 0 (by omega)
      have := hr t ht
      omega
  · have := mono 6 (Nat.le_refl _) (t + 1) (by omega)
    have := hr t ht
    exact ⟨by omega, by omega⟩
  · have a := hr t ht
    have b := hr u hu
    rcases Nat.lt_trichotomy t u with q | q | q
    · have := up t u q hu; omega
    · subst q; exact a.2.2.2.2 e
    · have := up u t q ht; omega
  · have a := hr t ht
    have b := hr u hu
    rcases Nat.lt_trichotomy t u with q | q | q
    · have := up t u q hu; omega
    · exact q
    · have := up u t q ht; omega
  · have a := hr t ht
    have b := hr u hu
    rcases Nat.lt_trichotomy t u with q | q | q
    · have := up t u q hu; omega
    · exact q
    · have := up u t q ht; omega
def pick7 (b0 b1 b2 b3 b4 b5 b6 : Nat) : Nat → Nat
  | 0 => b0
  | 1 => b1
  | 2 => b2
  | 3 => b3
  | 4 => b4
  | 5 => b5
  | _ => b6
set_option maxHeartbeats 8000000 in
theorem New_walk (w : World) : Calls Tryz.prog 11 #[] w (NwPost w) := by
  go_enter Tryz.func11, Tryz.ntmps11
  go_wp2_with fail
  refine (newTable_walk0 64 (by omega) _).mono ?_
  rintro e w1 ⟨r0, q0, rfl, a1, a2, a3, a4, a5, hb1, a6, a7, a8, a9⟩
  have Q0 := hideIt (show Tq 0 r0 q0 w1 from ⟨a6, a7, a8, a9, a4, a5⟩)
  have H0 := hideIt (And.intro a1 (And.intro a2 (And.intro a3 (And.intro a4 a5))))
  clear a1 a2 a3 a4 a5 a6 a7 a8 a9
  go_wp2_with fail
  refine (newTable_walk1 64 (by omega) _).mono ?_
  rintro e w2 ⟨r1, q1, rfl, a1, a2, a3, a4, a5, hb2, a6, a7, a8, a9⟩
  have Q1 := hideIt (show Tq 1 r1 q1 w2 from ⟨a6, a7, a8, a9, a4, a5⟩)
  have H1 := hideIt (And.intro a1 (And.intro a2 (And.intro a3 (And.intro a4 a5))))
  clear a1 a2 a3 a4 a5 a6 a7 a8 a9
  go_wp2_with fail
  refine (newTable_walk2 128 (by omega) _).mono ?_
  rintro e w3 ⟨r2, q2, rfl, a1, a2, a3, a4, a5, hb3, a6, a7, a8, a9⟩
  have Q2 := hideIt (show Tq 2 r2 q2 w3 from ⟨a6, a7, a8, a9, a4, a5⟩)
  have H2 := hideIt (And.intro a1 (And.intro a2 (And.intro a3 (And.intro a4 a5))))
  clear a1 a2 a3 a4 a5 a6 a7 a8 a9
  go_wp2_with fail
  refine (newTable_walk3 64 (by omega) _).mono ?_
  rintro e w4 ⟨r3, q3, rfl, a1, a2, a3, a4, a5, hb4, a6, a7, a8, a9⟩
  have Q3 := hideIt (show Tq 3 r3 q3 w4 from ⟨a6, a7, a8, a9, a4, a5⟩)
  have H3 := hideIt (And.intro a1 (And.intro a2 (And.intro a3 (And.intro a4 a5))))
  clear a1 a2 a3 a4 a5 a6 a7 a8 a9
  go_wp2_with fail
  refine (newTable_walk4 64 (by omega) _).mono ?_
  rintro e w5 ⟨r4, q4, rfl, a1, a2, a3, a4, a5, hb5, a6, a7, a8, a9⟩
  have Q4 := hideIt (show Tq 4 r4 q4 w5 from ⟨a6, a7, a8, a9, a4, a5⟩)
  have H4 := hideIt (And.intro a1 (And.intro a2 (And.intro a3 (And.intro a4 a5))))
  clear a1 a2 a3 a4 a5 a6 a7 a8 a9
  go_wp2_with fail
  refine (newTable_walk5 32 (by omega) _).mono ?_
  rintro e w6 ⟨r5, q5, rfl, a1, a2, a3, a4, a5, hb6, a6, a7, a8, a9⟩
  have Q5 := hideIt (show Tq 5 r5 q5 w6 from ⟨a6, a7, a8, a9, a4, a5⟩)
  have H5 := hideIt (And.intro a1 (And.intro a2 (And.intro a3 (And.intro a4 a5))))
  clear a1 a2 a3 a4 a5 a6 a7 a8 a9
  have s1 := hb1.size
  have s2 := hb2.size
  have s3 := hb3.size
  have s4 := hb4.size
  have s5 := hb5.size
  have s6 := hb6.size
  have B26 := Below.thr hb2 (Below.thr hb3 (Below.thr hb4 (Below.thr hb5 hb6)))
  have B36 := Below.thr hb3 (Below.thr hb4 (Below.thr hb5 hb6))
  have B46 := Below.thr hb4 (Below.thr hb5 hb6)
  have B56 := Below.thr hb5 hb6
  have HB := hideIt (Below.thr hb1 B26)
  have HQ : Hid (∀ w', Below w6.heap.size w6 w' → Tq 0 r0 q0 w' ∧ Tq 1 r1 q1 w' ∧ Tq 2 r2 q2 w' ∧ Tq 3 r3 q3 w' ∧ Tq 4 r4 q4 w' ∧ Tq 5 r5 q5 w') := fun w' k =>
    ⟨Q0.out.below (Below.thr B26 k) Q0.out.lr Q0.out.ls, Q1.out.below (Below.thr B36 k) Q1.out.lr Q1.out.ls, Q2.out.below (Below.thr B46 k) Q2.out.lr Q2.out.ls, Q3.out.below (Below.thr B56 k) Q3.out.lr Q3.out.ls, Q4.out.below (Below.thr hb6 k) Q4.out.lr Q4.out.ls, Q5.out.below k Q5.out.lr Q5.out.ls⟩
  have HS : Hid (w.heap.size ≤ w1.heap.size ∧ w1.heap.size ≤ w2.heap.size ∧ w2.heap.size ≤ w3.heap.size ∧ w3.heap.size ≤ w4.heap.size ∧ w4.heap.size ≤ w5.heap.size ∧ w5.heap.size ≤ w6.heap.size) := ⟨s1, s2, s3, s4, s5, s6⟩
  clear hb1 hb2 hb3 hb4 hb5 hb6 s1 s2 s3 s4 s5 s6 B26 B36 B46 B56 Q0 Q1 Q2 Q3 Q4 Q5
  go_wp2_with fail
  have HA : Hid (∀ cs : Array Value, (∀ o, o < 2910 → cs[o]? = some (memOf (s00 (pick6 r0 r1 r2 r3 r4 r5) (pick6 q0 q1 q2 q3 q4 q5)) o)) → Am (w6.alloc (.cells cs 144)) w6.heap.size (s00 (pick6 r0 r1 r2 r3 r4 r5) (pick6 q0 q1 q2 q3 q4 q5))) := fun cs hcs =>
    ⟨fun o ho => by rw [box_cell (heap_new _ _)]; exact hcs o ho, fun o => frozen_of_row _ _ _ _ _ (heap_new _ _)⟩
  go_loopw [12] (fun i wr => ∃ (k : Nat) (s : Av), k ≤ 320 ∧ i = .int .i64 (k : Int) ∧ Am wr w6.heap.size s ∧ Fresh s (pick6 r0 r1 r2 r3 r4 r5) (pick6 q0 q1 q2 q3 q4 q5) k ∧ Below w6.heap.size w6 wr ∧ w6.heap.size < wr.heap.size) (fun i _ => 320 - (intOf i).toNat)
  case atStart =>
    refine ⟨0, _, by omega, rfl, HA.out _ (fun o ho => ?_), fresh00 _ _, alloc_below _, by simp⟩
    rw [set12 z144_size]
    by_cases h : 2886 ≤ o ∧ o < 2898
    · rw [if_pos h]
      have : o = 2886 ∨ o = 2887 ∨ o = 2888 ∨ o = 2889 ∨ o = 2890 ∨ o = 2891 ∨ o = 2892 ∨ o = 2893 ∨ o = 2894 ∨ o = 2895 ∨ o = 2896 ∨ o = 2897 := by omega
      rcases this with rfl | rfl | rfl | rfl | rfl | rfl | rfl | rfl | rfl | rfl | rfl | rfl <;> rfl
    · rw [if_neg h, mem_s00 _ _ h]
      exact z144_get ho
  case round =>
    obtain ⟨k, s, hk, rfl, har, hfr, hbw, hsz⟩ := hrel
    have HR := hideIt har
    have HF := hideIt hfr
    have HBw := hideIt hbw
    by_cases hlt : k < 320
    · have hlt' : (k : Int) < 320 := by omega
      have c0 := har.gen hlt
      have c1 := har.typ hlt
      have c2 := har.rw hlt
      have c3 := har.par hlt
      have c4 := har.prv hlt
      have c5 := har.nxt hlt
      have c6 := har.bas hlt
      have c7 := har.siz hlt
      have f0 := har.free (k * 8)
      have f1 := har.free (k * 8 + 1)
      have f2 := har.free (k * 8 + 2)
      have f3 := har.free (k * 8 + 3)
      have f4 := har.free (k * 8 + 4)
      have f5 := har.free (k * 8 + 5)
      have f6 := har.free (k * 8 + 6)
      have f7 := har.free (k * 8 + 7)
      have k1 : (k : Int) % 65536 = (k : Int) := by omega
      generalize (s.hd k).gen = y0 at c0
      generalize (s.hd k).typ = y1 at c1
      generalize (s.hd k).row = y2 at c2
      generalize (s.hd k).par = y3 at c3
      generalize (s.hd k).prv = y4 at c4
      generalize (s.hd k).nxt = y5 at c5
      generalize (s.hd k).bas = y6 at c6
      generalize (s.hd k).siz = y7 at c7
      have h8 := head8' har hlt
      have b8 := below8 hbw (i := k)
      have HSW := hideIt (set_walk h8 (fun j hj => hfr.wd j hj) hlt)
      have HB8 := hideIt b8
      clear har hfr hbw h8 b8
      go_wp2_with fail
      refine HSW.out.mono ?_
      rintro e w7 ⟨rfl, hA7, hE7⟩
      have H7 := hideIt hA7
      have HB7 : Hid (Below w6.heap.size w6 w7) := HB8.out.trans (hE7.below' (by simpa using Nat.le_of_lt hsz) (fun q hq e => by omega))
      have l7 : w6.heap.size < w7.heap.size := Nat.lt_of_lt_of_le (by simpa using hsz) hE7.size
      clear hA7 hE7
      go_wp2_with fail
      exact ⟨⟨k + 1, _, by omega, by go_num, H7.out, HF.out.step, HB7.out, l7⟩, by simp [intOf]; omega⟩
    · obtain rfl : k = 320 := by omega
      clear har hfr hbw
      go_wp2_with fail
      generalize wr = w00 at *
      go_loopw [28] (fun i wz => ∃ (k : Nat) (s : Av), k ≤ 64 ∧ i = .int .i64 (k : Int) ∧ Am wz w6.heap.size s ∧ Fresh s (pick6 r0 r1 r2 r3 r4 r5) (pick6 q0 q1 q2 q3 q4 q5) 320 ∧ Below w6.heap.size w6 wz) (fun i _ => 64 - (intOf i).toNat)
      case atStart => exact ⟨0, s, by omega, rfl, HR.out, HF.out, HBw.out⟩
      case round =>
        clear HR HF HBw
        obtain ⟨j, s', hj, rfl, har, hfr, hbw⟩ := hrel
        by_cases hlt2 : j < 64
        · have hlt2' : (j : Int) < 64 := by omega
          have c0 := har.rgc (i := j) (f := 0) hlt2 (by omega)
          have c1 := har.rgc (i := j) (f := 1) hlt2 (by omega)
          have c2 := har.rgc (i := j) (f := 2) hlt2 (by omega)
          have c3 := har.rgc (i := j) (f := 3) hlt2 (by omega)
          simp only [rgC, Nat.add_zero] at c0 c1 c2 c3
          have f0 := har.free (2565 + j * 4)
          have f1 := har.free (2565 + j * 4 + 1)
          have f2 := har.free (2565 + j * 4 + 2)
          have f3 := har.free (2565 + j * 4 + 3)
          have H4 := hideIt (reg4' har hlt2)
          have HF4 := hideIt (hfr.reg j ⟨65535, 65535, 0, 0⟩)
          have HB4 := hideIt (below4 hbw (i := j))
          clear har hfr hbw
          go_wp2_with fail
          exact ⟨⟨j + 1, _, by omega, by go_num, H4.out, HF4.out, HB4.out⟩, by simp [intOf]; omega⟩
        · have HEnd : Hid (NwPost w (.returned (.pointer (some ⟨w6.heap.size, 0, none⟩))) wr) := by
            obtain ⟨z1, z2, z3, z4, z5, z6⟩ := HS.out
            obtain ⟨t0, t1, t2, t3, t4, t5⟩ := HQ.out wr hbw
            obtain ⟨n1, n2⟩ := new_end (w := w) (sq := pick7 w.heap.size w1.heap.size w2.heap.size w3.heap.size w4.heap.size w5.heap.size w6.heap.size) (rb := pick6 r0 r1 r2 r3 r4 r5) (sb := pick6 q0 q1 q2 q3 q4 q5) (fun t ht => by
              match t, ht with
              | 0, _ => exact z1
              | 1, _ => exact z2
              | 2, _ => exact z3
              | 3, _ => exact z4
              | 4, _ => exact z5
              | 5, _ => exact z6) rfl rfl (fun t ht => by
              match t, ht with
              | 0, _ => exact ⟨H0.out.1, H0.out.2.2.2.1, H0.out.2.1, H0.out.2.2.2.2, H0.out.2.2.1⟩
              | 1, _ => exact ⟨H1.out.1, H1.out.2.2.2.1, H1.out.2.1, H1.out.2.2.2.2, H1.out.2.2.1⟩
              | 2, _ => exact ⟨H2.out.1, H2.out.2.2.2.1, H2.out.2.1, H2.out.2.2.2.2, H2.out.2.2.1⟩
              | 3, _ => exact ⟨H3.out.1, H3.out.2.2.2.1, H3.out.2.1, H3.out.2.2.2.2, H3.out.2.2.1⟩
              | 4, _ => exact ⟨H4.out.1, H4.out.2.2.2.1, H4.out.2.1, H4.out.2.2.2.2, H4.out.2.2.1⟩
              | 5, _ => exact ⟨H5.out.1, H5.out.2.2.2.1, H5.out.2.1, H5.out.2.2.2.2, H5.out.2.2.1⟩) har hfr (fun t ht => by
              match t, ht with
              | 0, _ => exact t0
              | 1, _ => exact t1
              | 2, _ => exact t2
              | 3, _ => exact t3
              | 4, _ => exact t4
              | 5, _ => exact t5)
            exact ⟨_, _, _, s', rfl, Below.thr HB.out hbw, n1, hfr, n2⟩
          clear har hfr hbw
          go_wp2_with fail
          exact bodyPost_ret (by simp [results, Tryz.results11]) rfl HEnd.out
end Go.Proofs.Qxb6500847aGreatDoor.Os
