/-
  StoreAll.
-/
import Derived.Test.Qxb6500847aGreatDoorOsRd0
import Derived.Test.Qxb6500847aGreatDoorOxB
import Derived.Test.Qxb6500847aGreatDoorOsRd1
import Derived.Test.Qxb6500847aGreatDoorOsRd2
import Derived.Test.Qxb6500847aGreatDoorOsRd3
import Derived.Test.Qxb6500847aGreatDoorOsRd4
import Derived.Test.Qxb6500847aGreatDoorOsRd5
namespace Go.Proofs.Qxb6500847aGreatDoor.Os
open Go.RowKit FloorA
set_option maxRecDepth 100000
section
variable {A : Nat} {rb sb : Nat → Nat} {s : Av} {tl : Nat → List Int} {ws : Nat → Nat → Nat → Int} {w : World} {L : Nat → List Nat} {n : Nat}
/-- A slice of words. -/
def Ws (w : World) (v : Value) (n : Nat) (X : Nat → Nat) : Prop := (n = 0 ∧ ∃ ad c, v = .slice ad 0 c) ∨ ∃ b o cap, v = .slice (some ⟨b, o, none⟩) n cap ∧ n ≤ cap ∧ cap ≤ maxLen ∧ b < w.heap.size ∧ Words w b o n X
theorem Ws.below {w w' : World} {v : Value} {n : Nat} {X : Nat → Nat} (h : Ws w v n X) (k : Below w.heap.size w w') : Ws w' v n X := by
  rcases h with h | ⟨b, o, cap, h1, h2, h3, h4, h5⟩
  · exact Or.inl h
  · exact Or.inr ⟨b, o, cap, h1, h2, h3, Nat.lt_of_lt_of_le h4 k.size, h5.ext (Ext.of_below k (fun _ => False)) h4 id⟩
set_option maxHeartbeats 16000000 in
theorem StoreAll_walk (h : Ms w A rb sb s tl ws) (hI : IV s tl L n) (hW : Wr ws) (hK : Kd w) (kl : 1 < w.heap.size) (i : Nat) (g : Int) {v : Value} {m : Nat} {X : Nat → Nat} (hv : Ws w v m X) :
    Calls Tryz.prog 64 #[.pointer (some ⟨A, 0, none⟩), .agg #[.int .u16 (i : Int), .int .u32 g], v] w (MrPost A rb sb s tl ws (staX (ob s ws) i g (xl X m)) w) := by
  have bB := alloc_below (w := w) (.cells #[.int .u16 (i : Int), .int .u32 g] 32)
  have hz : (w.alloc (.cells #[.int .u16 (i : Int), .int .u32 g] 32)).heap[w.heap.size]? = some (.cells #[.int .u16 (i : Int), .int .u32 g] 32 (0, 0)) := heap_new _ _
  have HM := hideIt (h.below bB)
  have HB := hideIt bB
  have HI := hideIt hI
  have HW : Hid (Wr ws) := hW
  have HZ := hideIt hz
  have HK : Hid (Kd w) := hK
  have hsl : ∃ ad cap, v = .slice ad m cap := by
    rcases hv with ⟨rfl, ad, c, rfl⟩ | ⟨b, o, cap, rfl, _⟩
    · exact ⟨_, _, rfl⟩
    · exact ⟨_, _, rfl⟩
  obtain ⟨ad, cap, rfl⟩ := hsl
  have HV := hideIt hv
  have mb : m ≤ maxLen := by
    rcases hv with ⟨rfl, _⟩ | ⟨b, o, c, _, h1, h2, _⟩
    · exact Nat.zero_le _
    · omega
  clear h hI bB hW hz hK hv
  go_enter Tryz.func64, Tryz.ntmps64
  go_wp2_with fail
  generalize w.alloc (.cells #[.int .u16 (i : Int), .int .u32 g] 32) = w0 at *
  go_at_call 98
  refine (resolve_walk HM.out.am i g _).mono ?_
  rintro e w1 ⟨hb1, hh⟩
  have HB1 := hideIt (Below.thr HB.out hb1)
  have HM1 := hideIt (HM.out.below hb1)
  have hz1 := (hb1.block w.heap.size (heap_lt HZ.out)).trans HZ.out
  obtain ⟨z0, z1, _, _⟩ := two_cells hz1
  have HZ1 := hideIt hz1
  clear hb1 hz1
  rcases hh with ⟨hl, rfl⟩ | ⟨hl, v0, rfl, hv0⟩
  · have HL := hideIt hl
    have hi := hl.1
    have htc := HM1.out.am.typ hl.1
    have erw := HM1.out.am.rw hl.1
    obtain ⟨k, ek, k7, kk⟩ := HI.out.ge.typ i hl.1
    clear kk
    have k0 : k ≠ 0 := fun e => hl.2.2.1 (by rw [ek, e]; rfl)
    have k8 : (k : Int) < 8 := by omega
    have hkf := (HK.out.below HB1.out kl k (by omega)).2.2
    have HEK := hideIt ek
    rw [ek] at htc
    clear hl ek
    by_cases hm : m = kFlds k
    · have hm' : ((m : Int) != (kFlds k : Int)) = false := by rw [hm]; exact bne_self_eq_false _
      by_cases k1 : k = 1
      · subst k1
        change w1.cell? ⟨A, i * 8 + 1, none⟩ = some (.int .u8 1) at htc
        have hm2 : m = 0 := hm
        clear hm hm'
        subst hm2
        change w1.cell? ⟨1, 7, none⟩ = some (.int .i64 0) at hkf
        clear k0 k7 k8
        have HF : Hid (MrPost A rb sb s tl ws (staX (ob s ws) i g (xl X 0)) w (.returned .nilIface) w1) := suc_none HB1.out HM1.out HW.out (staX_reg HL.out HEK.out)
        go_wp2_with fail
        exact bodyPost_ret (by simp [results, Tryz.results64]) rfl HF.out
      · obtain ⟨r, er, r1, rn⟩ := HI.out.tb.row i k hi (by omega) k7 HEK.out
        clear rn
        have HER : Hid ((s.hd i).row = (r : Int)) := er
        rw [er] at erw
        have hk : k = 2 ∨ k = 3 ∨ k = 4 ∨ k = 5 ∨ k = 6 ∨ k = 7 := by omega
        clear k0 k1 k7
        rcases hk with rfl | rfl | rfl | rfl | rfl | rfl
        · change w1.cell? ⟨A, i * 8 + 1, none⟩ = some (.int .u8 2) at htc
          change r < nR 0 at r1
          have hm2 : m = 112 := hm
          clear hm hm' k8
          subst hm2
          obtain ⟨gb, go, hsl, hcap, hml, hgl, hwd⟩ : ∃ gb go, (ad = some ⟨gb, go, none⟩) ∧ 112 ≤ cap ∧ cap ≤ maxLen ∧ gb < w.heap.size ∧ Words w gb go 112 X := by
            rcases HV.out with ⟨q, _⟩ | ⟨b, o, c, e, h1, h2, h3, h4⟩
            · exact absurd q (by omega)
            · injection e with e1 e2 e3
              exact ⟨b, o, e1, by omega, by omega, h3, h4⟩
          subst hsl
          change w1.cell? ⟨1, 11, none⟩ = some (.int .i64 112) at hkf
          have hb2 : Below w.heap.size w (w1.drew.alloc (.cells Tryz.zeroCells101 101)) := Below.thr (Below.thr HB1.out (below_d _)) (alloc_below _)
          have hM2 := (HM1.out.below (below_d w1)).below (alloc_below (.cells Tryz.zeroCells101 101))
          have HAt := hideIt (fun w' (k : Below w1.heap.size w1 w') => at_walk0 (HM1.out.below k) r1)
          have HFl := hideIt (fill_walk0 (w := w1.drew.alloc (.cells Tryz.zeroCells101 101)) (B := rb 0) (o := r * nC 0) (N := w1.heap.size) (gb := gb) (go := go) (cap := cap) (heap_new _ _) (fun j hj => ⟨(hM2.row 0 (by omega) r r1).isSome j (by rw [rowL_len]; exact hj), hM2.rfz 0 (by omega) _⟩) (Nat.ne_of_lt (HM1.out.rlt (by omega))) (hwd.ext (Ext.of_below hb2 (fun _ => False)) hgl id) (Nat.ne_of_lt (Nat.lt_of_lt_of_le hgl HB1.out.size)) hcap)
          have HM2 := hideIt hM2
          have HB2 := hideIt hb2
          have KAf : Hid (∀ q w3, FlPost 0 (rb 0) (r * nC 0) w1.heap.size X (w1.drew.alloc (.cells Tryz.zeroCells101 101)) (.returned (.bool q)) w3 → w3.cell? ⟨A, i * 8 + 2, none⟩ = some (.int .u16 (r : Int)) ∧ Ext w1.heap.size (fun b => b = rb 0) w1 w3) := fun q w3 hf => by
            have hx := hf.frm (Below.thr (below_d w1) (alloc_below _)) (Nat.le_refl _)
            exact ⟨(hx.cell (p := ⟨A, i * 8 + 2, none⟩) HM1.out.am.lt (HM1.out.ar 0 (by omega)).1.symm).trans erw, hx⟩
          clear hwd hgl hb2 hM2 HK hcap hml
          go_wp2_with fail
          go_region_held3 (fun w' => w'.cell? ⟨A, i * 8 + 2, none⟩ = some (.int .u16 (r : Int)) ∧ Ext w1.heap.size (fun b => b = rb 0) w1 w') (first | (have hy := hfk; exact hy) | exact ⟨erw, Ext.of_below (below_d _) _⟩ | exact ⟨((Below.thr (below_d w1) (alloc_below _)).cell (p := ⟨A, i * 8 + 2, none⟩) (cell_lt erw)).trans erw, Ext.of_below (Below.thr (below_d w1) (alloc_below _)) _⟩)
              ((first
                | (go_at_call 110; refine (HAt.out _ (by first | exact below_d _ | exact Below.thr (below_d w1) (alloc_below _))).mono ?_; rintro e w2 ⟨rfl, hw2⟩; subst hw2)
                | (go_at_call 183; refine HFl.out.mono ?_; rintro e w3 hfl; obtain ⟨q, rfl⟩ := hfl.ret; have hfk := KAf.out _ _ hfl)))
          all_goals
            clear hfk
            cases q
            · obtain ⟨hfb, hb5, hb6⟩ := hfl.bad HB2.out HB1.out.size
              have HX := hideIt (staX_bad (ws := ws) HL.out HEK.out HER.out hfb)
              clear hfb
              have hz5 := (hb6 w.heap.size (by have := heap_lt HZ1.out; simp; omega) (Nat.ne_of_lt (heap_lt HZ1.out))).trans ((heap_alloc_old _ _ (show w.heap.size < w1.drew.heap.size from heap_lt HZ1.out)).trans (show w1.drew.heap[w.heap.size]? = _ from HZ1.out))
              obtain ⟨y0, y1, _, _⟩ := two_cells hz5
              have HB5 := hideIt hb5
              clear hfl hb5 hb6 hz5
              go_wp2_with (go_at_call 123; refine (refuse_walk _ _ _ _ _ _).mono ?_; rintro e w2 ⟨v2, rfl, hv2, hb2⟩; have HF : Hid (MrPost A rb sb s tl ws (staX (ob s ws) i g (xl X 112)) w (.returned v2) w2) := MrPost.err HX.out ⟨hv2, by omega, Below.thr HB5.out hb2⟩; clear hv2 hb2)
              exact bodyPost_ret (by simp [results, Tryz.results64]) rfl HF.out
            · have HF : Hid (MrPost A rb sb s tl ws (staX (ob s ws) i g (xl X 112)) w (.returned .nilIface) w3) := hfl.good HB2.out HM2.out HI.out HW.out HL.out.1 (by omega) HEK.out HER.out r1 HB1.out.size HM1.out.ntz (fun hq => staX_ok (t := 0) HL.out HEK.out HER.out hq (fun f hf => by unfold cut; rw [if_pos hf]))
              clear hfl
              go_wp2_with fail
              exact bodyPost_ret (by simp [results, Tryz.results64]) rfl HF.out
        · change w1.cell? ⟨A, i * 8 + 1, none⟩ = some (.int .u8 3) at htc
          change r < nR 1 at r1
          have hm2 : m = 18 := hm
          clear hm hm' k8
          subst hm2
          obtain ⟨gb, go, hsl, hcap, hml, hgl, hwd⟩ : ∃ gb go, (ad = some ⟨gb, go, none⟩) ∧ 18 ≤ cap ∧ cap ≤ maxLen ∧ gb < w.heap.size ∧ Words w gb go 18 X := by
            rcases HV.out with ⟨q, _⟩ | ⟨b, o, c, e, h1, h2, h3, h4⟩
            · exact absurd q (by omega)
            · injection e with e1 e2 e3
              exact ⟨b, o, e1, by omega, by omega, h3, h4⟩
          subst hsl
          change w1.cell? ⟨1, 15, none⟩ = some (.int .i64 18) at hkf
          have hb2 : Below w.heap.size w (w1.drew.alloc (.cells #[.int .u8 0, .int .u8 0, .int .u16 0, .int .u32 0, .int .u16 0, .int .u16 0, .int .u16 0, .int .u32 0, .int .u32 0, .int .u16 0, .int .u32 0, .int .u16 0, .int .u32 0, .int .u64 0, .int .u8 0, .int .u64 0, .int .u64 0, .int .u64 0, .int .u64 0, .int .u8 0, .int .u32 0, .int .u32 0] 109)) := Below.thr (Below.thr HB1.out (below_d _)) (alloc_below _)
          have hM2 := (HM1.out.below (below_d w1)).below (alloc_below (.cells #[.int .u8 0, .int .u8 0, .int .u16 0, .int .u32 0, .int .u16 0, .int .u16 0, .int .u16 0, .int .u32 0, .int .u32 0, .int .u16 0, .int .u32 0, .int .u16 0, .int .u32 0, .int .u64 0, .int .u8 0, .int .u64 0, .int .u64 0, .int .u64 0, .int .u64 0, .int .u8 0, .int .u32 0, .int .u32 0] 109))
          have HAt := hideIt (fun w' (k : Below w1.heap.size w1 w') => at_walk1 (HM1.out.below k) r1)
          have HFl := hideIt (fill_walk1 (w := w1.drew.alloc (.cells #[.int .u8 0, .int .u8 0, .int .u16 0, .int .u32 0, .int .u16 0, .int .u16 0, .int .u16 0, .int .u32 0, .int .u32 0, .int .u16 0, .int .u32 0, .int .u16 0, .int .u32 0, .int .u64 0, .int .u8 0, .int .u64 0, .int .u64 0, .int .u64 0, .int .u64 0, .int .u8 0, .int .u32 0, .int .u32 0] 109)) (B := rb 1) (o := r * nC 1) (N := w1.heap.size) (gb := gb) (go := go) (cap := cap) (heap_new _ _) (fun j hj => ⟨(hM2.row 1 (by omega) r r1).isSome j (by rw [rowL_len]; exact hj), hM2.rfz 1 (by omega) _⟩) (Nat.ne_of_lt (HM1.out.rlt (by omega))) (hwd.ext (Ext.of_below hb2 (fun _ => False)) hgl id) (Nat.ne_of_lt (Nat.lt_of_lt_of_le hgl HB1.out.size)) hcap)
          have HM2 := hideIt hM2
          have HB2 := hideIt hb2
          have KAf : Hid (∀ q w3, FlPost 1 (rb 1) (r * nC 1) w1.heap.size X (w1.drew.alloc (.cells #[.int .u8 0, .int .u8 0, .int .u16 0, .int .u32 0, .int .u16 0, .int .u16 0, .int .u16 0, .int .u32 0, .int .u32 0, .int .u16 0, .int .u32 0, .int .u16 0, .int .u32 0, .int .u64 0, .int .u8 0, .int .u64 0, .int .u64 0, .int .u64 0, .int .u64 0, .int .u8 0, .int .u32 0, .int .u32 0] 109)) (.returned (.bool q)) w3 → w3.cell? ⟨A, i * 8 + 2, none⟩ = some (.int .u16 (r : Int)) ∧ Ext w1.heap.size (fun b => b = rb 1) w1 w3) := fun q w3 hf => by
            have hx := hf.frm (Below.thr (below_d w1) (alloc_below _)) (Nat.le_refl _)
            exact ⟨(hx.cell (p := ⟨A, i * 8 + 2, none⟩) HM1.out.am.lt (HM1.out.ar 1 (by omega)).1.symm).trans erw, hx⟩
          clear hwd hgl hb2 hM2 HK hcap hml
          go_wp2_with fail
          go_region_held3 (fun w' => w'.cell? ⟨A, i * 8 + 2, none⟩ = some (.int .u16 (r : Int)) ∧ Ext w1.heap.size (fun b => b = rb 1) w1 w') (first | (have hy := hfk; exact hy) | exact ⟨erw, Ext.of_below (below_d _) _⟩ | exact ⟨((Below.thr (below_d w1) (alloc_below _)).cell (p := ⟨A, i * 8 + 2, none⟩) (cell_lt erw)).trans erw, Ext.of_below (Below.thr (below_d w1) (alloc_below _)) _⟩)
              ((first
                | (go_at_call 111; refine (HAt.out _ (by first | exact below_d _ | exact Below.thr (below_d w1) (alloc_below _))).mono ?_; rintro e w2 ⟨rfl, hw2⟩; subst hw2)
                | (go_at_call 184; refine HFl.out.mono ?_; rintro e w3 hfl; obtain ⟨q, rfl⟩ := hfl.ret; have hfk := KAf.out _ _ hfl)))
          all_goals
            clear hfk
            cases q
            · obtain ⟨hfb, hb5, hb6⟩ := hfl.bad HB2.out HB1.out.size
              have HX := hideIt (staX_bad (ws := ws) HL.out HEK.out HER.out hfb)
              clear hfb
              have hz5 := (hb6 w.heap.size (by have := heap_lt HZ1.out; simp; omega) (Nat.ne_of_lt (heap_lt HZ1.out))).trans ((heap_alloc_old _ _ (show w.heap.size < w1.drew.heap.size from heap_lt HZ1.out)).trans (show w1.drew.heap[w.heap.size]? = _ from HZ1.out))
              obtain ⟨y0, y1, _, _⟩ := two_cells hz5
              have HB5 := hideIt hb5
              clear hfl hb5 hb6 hz5
              go_wp2_with (go_at_call 123; refine (refuse_walk _ _ _ _ _ _).mono ?_; rintro e w2 ⟨v2, rfl, hv2, hb2⟩; have HF : Hid (MrPost A rb sb s tl ws (staX (ob s ws) i g (xl X 18)) w (.returned v2) w2) := MrPost.err HX.out ⟨hv2, by omega, Below.thr HB5.out hb2⟩; clear hv2 hb2)
              exact bodyPost_ret (by simp [results, Tryz.results64]) rfl HF.out
            · have HF : Hid (MrPost A rb sb s tl ws (staX (ob s ws) i g (xl X 18)) w (.returned .nilIface) w3) := hfl.good HB2.out HM2.out HI.out HW.out HL.out.1 (by omega) HEK.out HER.out r1 HB1.out.size HM1.out.ntz (fun hq => staX_ok (t := 1) HL.out HEK.out HER.out hq (fun f hf => by unfold cut; rw [if_pos hf]))
              clear hfl
              go_wp2_with fail
              exact bodyPost_ret (by simp [results, Tryz.results64]) rfl HF.out
        · change w1.cell? ⟨A, i * 8 + 1, none⟩ = some (.int .u8 4) at htc
          change r < nR 2 at r1
          have hm2 : m = 3 := hm
          clear hm hm' k8
          subst hm2
          obtain ⟨gb, go, hsl, hcap, hml, hgl, hwd⟩ : ∃ gb go, (ad = some ⟨gb, go, none⟩) ∧ 3 ≤ cap ∧ cap ≤ maxLen ∧ gb < w.heap.size ∧ Words w gb go 3 X := by
            rcases HV.out with ⟨q, _⟩ | ⟨b, o, c, e, h1, h2, h3, h4⟩
            · exact absurd q (by omega)
            · injection e with e1 e2 e3
              exact ⟨b, o, e1, by omega, by omega, h3, h4⟩
          subst hsl
          change w1.cell? ⟨1, 19, none⟩ = some (.int .i64 3) at hkf
          have hb2 : Below w.heap.size w (w1.drew.alloc (.cells #[.int .u8 0, .int .u16 0, .int .u16 0] 115)) := Below.thr (Below.thr HB1.out (below_d _)) (alloc_below _)
          have hM2 := (HM1.out.below (below_d w1)).below (alloc_below (.cells #[.int .u8 0, .int .u16 0, .int .u16 0] 115))
          have HAt := hideIt (fun w' (k : Below w1.heap.size w1 w') => at_walk2 (HM1.out.below k) r1)
          have HFl := hideIt (fill_walk2 (w := w1.drew.alloc (.cells #[.int .u8 0, .int .u16 0, .int .u16 0] 115)) (B := rb 2) (o := r * nC 2) (N := w1.heap.size) (gb := gb) (go := go) (cap := cap) (heap_new _ _) (fun j hj => ⟨(hM2.row 2 (by omega) r r1).isSome j (by rw [rowL_len]; exact hj), hM2.rfz 2 (by omega) _⟩) (Nat.ne_of_lt (HM1.out.rlt (by omega))) (hwd.ext (Ext.of_below hb2 (fun _ => False)) hgl id) (Nat.ne_of_lt (Nat.lt_of_lt_of_le hgl HB1.out.size)) hcap)
          have HM2 := hideIt hM2
          have HB2 := hideIt hb2
          have KAf : Hid (∀ q w3, FlPost 2 (rb 2) (r * nC 2) w1.heap.size X (w1.drew.alloc (.cells #[.int .u8 0, .int .u16 0, .int .u16 0] 115)) (.returned (.bool q)) w3 → w3.cell? ⟨A, i * 8 + 2, none⟩ = some (.int .u16 (r : Int)) ∧ Ext w1.heap.size (fun b => b = rb 2) w1 w3) := fun q w3 hf => by
            have hx := hf.frm (Below.thr (below_d w1) (alloc_below _)) (Nat.le_refl _)
            exact ⟨(hx.cell (p := ⟨A, i * 8 + 2, none⟩) HM1.out.am.lt (HM1.out.ar 2 (by omega)).1.symm).trans erw, hx⟩
          clear hwd hgl hb2 hM2 HK hcap hml
          go_wp2_with fail
          go_region_held3 (fun w' => w'.cell? ⟨A, i * 8 + 2, none⟩ = some (.int .u16 (r : Int)) ∧ Ext w1.heap.size (fun b => b = rb 2) w1 w') (first | (have hy := hfk; exact hy) | exact ⟨erw, Ext.of_below (below_d _) _⟩ | exact ⟨((Below.thr (below_d w1) (alloc_below _)).cell (p := ⟨A, i * 8 + 2, none⟩) (cell_lt erw)).trans erw, Ext.of_below (Below.thr (below_d w1) (alloc_below _)) _⟩)
              ((first
                | (go_at_call 112; refine (HAt.out _ (by first | exact below_d _ | exact Below.thr (below_d w1) (alloc_below _))).mono ?_; rintro e w2 ⟨rfl, hw2⟩; subst hw2)
                | (go_at_call 185; refine HFl.out.mono ?_; rintro e w3 hfl; obtain ⟨q, rfl⟩ := hfl.ret; have hfk := KAf.out _ _ hfl)))
          all_goals
            clear hfk
            cases q
            · obtain ⟨hfb, hb5, hb6⟩ := hfl.bad HB2.out HB1.out.size
              have HX := hideIt (staX_bad (ws := ws) HL.out HEK.out HER.out hfb)
              clear hfb
              have hz5 := (hb6 w.heap.size (by have := heap_lt HZ1.out; simp; omega) (Nat.ne_of_lt (heap_lt HZ1.out))).trans ((heap_alloc_old _ _ (show w.heap.size < w1.drew.heap.size from heap_lt HZ1.out)).trans (show w1.drew.heap[w.heap.size]? = _ from HZ1.out))
              obtain ⟨y0, y1, _, _⟩ := two_cells hz5
              have HB5 := hideIt hb5
              clear hfl hb5 hb6 hz5
              go_wp2_with (go_at_call 123; refine (refuse_walk _ _ _ _ _ _).mono ?_; rintro e w2 ⟨v2, rfl, hv2, hb2⟩; have HF : Hid (MrPost A rb sb s tl ws (staX (ob s ws) i g (xl X 3)) w (.returned v2) w2) := MrPost.err HX.out ⟨hv2, by omega, Below.thr HB5.out hb2⟩; clear hv2 hb2)
              exact bodyPost_ret (by simp [results, Tryz.results64]) rfl HF.out
            · have HF : Hid (MrPost A rb sb s tl ws (staX (ob s ws) i g (xl X 3)) w (.returned .nilIface) w3) := hfl.good HB2.out HM2.out HI.out HW.out HL.out.1 (by omega) HEK.out HER.out r1 HB1.out.size HM1.out.ntz (fun hq => staX_ok (t := 2) HL.out HEK.out HER.out hq (fun f hf => by unfold cut; rw [if_pos hf]))
              clear hfl
              go_wp2_with fail
              exact bodyPost_ret (by simp [results, Tryz.results64]) rfl HF.out
        · change w1.cell? ⟨A, i * 8 + 1, none⟩ = some (.int .u8 5) at htc
          change r < nR 3 at r1
          have hm2 : m = 4 := hm
          clear hm hm' k8
          subst hm2
          obtain ⟨gb, go, hsl, hcap, hml, hgl, hwd⟩ : ∃ gb go, (ad = some ⟨gb, go, none⟩) ∧ 4 ≤ cap ∧ cap ≤ maxLen ∧ gb < w.heap.size ∧ Words w gb go 4 X := by
            rcases HV.out with ⟨q, _⟩ | ⟨b, o, c, e, h1, h2, h3, h4⟩
            · exact absurd q (by omega)
            · injection e with e1 e2 e3
              exact ⟨b, o, e1, by omega, by omega, h3, h4⟩
          subst hsl
          change w1.cell? ⟨1, 23, none⟩ = some (.int .i64 4) at hkf
          have hb2 : Below w.heap.size w (w1.drew.alloc (.cells #[.int .u64 0, .int .u16 0, .int .u16 0, .int .u16 0, .int .u32 0] 121)) := Below.thr (Below.thr HB1.out (below_d _)) (alloc_below _)
          have hM2 := (HM1.out.below (below_d w1)).below (alloc_below (.cells #[.int .u64 0, .int .u16 0, .int .u16 0, .int .u16 0, .int .u32 0] 121))
          have HAt := hideIt (fun w' (k : Below w1.heap.size w1 w') => at_walk3 (HM1.out.below k) r1)
          have HFl := hideIt (fill_walk3 (w := w1.drew.alloc (.cells #[.int .u64 0, .int .u16 0, .int .u16 0, .int .u16 0, .int .u32 0] 121)) (B := rb 3) (o := r * nC 3) (N := w1.heap.size) (gb := gb) (go := go) (cap := cap) (heap_new _ _) (fun j hj => ⟨(hM2.row 3 (by omega) r r1).isSome j (by rw [rowL_len]; exact hj), hM2.rfz 3 (by omega) _⟩) (Nat.ne_of_lt (HM1.out.rlt (by omega))) (hwd.ext (Ext.of_below hb2 (fun _ => False)) hgl id) (Nat.ne_of_lt (Nat.lt_of_lt_of_le hgl HB1.out.size)) hcap)
          have HM2 := hideIt hM2
          have HB2 := hideIt hb2
          have KAf : Hid (∀ q w3, FlPost 3 (rb 3) (r * nC 3) w1.heap.size X (w1.drew.alloc (.cells #[.int .u64 0, .int .u16 0, .int .u16 0, .int .u16 0, .int .u32 0] 121)) (.returned (.bool q)) w3 → w3.cell? ⟨A, i * 8 + 2, none⟩ = some (.int .u16 (r : Int)) ∧ Ext w1.heap.size (fun b => b = rb 3) w1 w3) := fun q w3 hf => by
            have hx := hf.frm (Below.thr (below_d w1) (alloc_below _)) (Nat.le_refl _)
            exact ⟨(hx.cell (p := ⟨A, i * 8 + 2, none⟩) HM1.out.am.lt (HM1.out.ar 3 (by omega)).1.symm).trans erw, hx⟩
          clear hwd hgl hb2 hM2 HK hcap hml
          go_wp2_with fail
          go_region_held3 (fun w' => w'.cell? ⟨A, i * 8 + 2, none⟩ = some (.int .u16 (r : Int)) ∧ Ext w1.heap.size (fun b => b = rb 3) w1 w') (first | (have hy := hfk; exact hy) | exact ⟨erw, Ext.of_below (below_d _) _⟩ | exact ⟨((Below.thr (below_d w1) (alloc_below _)).cell (p := ⟨A, i * 8 + 2, none⟩) (cell_lt erw)).trans erw, Ext.of_below (Below.thr (below_d w1) (alloc_below _)) _⟩)
              ((first
                | (go_at_call 113; refine (HAt.out _ (by first | exact below_d _ | exact Below.thr (below_d w1) (alloc_below _))).mono ?_; rintro e w2 ⟨rfl, hw2⟩; subst hw2)
                | (go_at_call 186; refine HFl.out.mono ?_; rintro e w3 hfl; obtain ⟨q, rfl⟩ := hfl.ret; have hfk := KAf.out _ _ hfl)))
          all_goals
            clear hfk
            cases q
            · obtain ⟨hfb, hb5, hb6⟩ := hfl.bad HB2.out HB1.out.size
              have HX := hideIt (staX_bad (ws := ws) HL.out HEK.out HER.out hfb)
              clear hfb
              have hz5 := (hb6 w.heap.size (by have := heap_lt HZ1.out; simp; omega) (Nat.ne_of_lt (heap_lt HZ1.out))).trans ((heap_alloc_old _ _ (show w.heap.size < w1.drew.heap.size from heap_lt HZ1.out)).trans (show w1.drew.heap[w.heap.size]? = _ from HZ1.out))
              obtain ⟨y0, y1, _, _⟩ := two_cells hz5
              have HB5 := hideIt hb5
              clear hfl hb5 hb6 hz5
              go_wp2_with (go_at_call 123; refine (refuse_walk _ _ _ _ _ _).mono ?_; rintro e w2 ⟨v2, rfl, hv2, hb2⟩; have HF : Hid (MrPost A rb sb s tl ws (staX (ob s ws) i g (xl X 4)) w (.returned v2) w2) := MrPost.err HX.out ⟨hv2, by omega, Below.thr HB5.out hb2⟩; clear hv2 hb2)
              exact bodyPost_ret (by simp [results, Tryz.results64]) rfl HF.out
            · have HF : Hid (MrPost A rb sb s tl ws (staX (ob s ws) i g (xl X 4)) w (.returned .nilIface) w3) := hfl.good HB2.out HM2.out HI.out HW.out HL.out.1 (by omega) HEK.out HER.out r1 HB1.out.size HM1.out.ntz (fun hq => staX_ok (t := 3) HL.out HEK.out HER.out hq (fun f hf => by unfold cut; rw [if_pos hf]))
              clear hfl
              go_wp2_with fail
              exact bodyPost_ret (by simp [results, Tryz.results64]) rfl HF.out
        · change w1.cell? ⟨A, i * 8 + 1, none⟩ = some (.int .u8 6) at htc
          change r < nR 4 at r1
          have hm2 : m = 2 := hm
          clear hm hm' k8
          subst hm2
          obtain ⟨gb, go, hsl, hcap, hml, hgl, hwd⟩ : ∃ gb go, (ad = some ⟨gb, go, none⟩) ∧ 2 ≤ cap ∧ cap ≤ maxLen ∧ gb < w.heap.size ∧ Words w gb go 2 X := by
            rcases HV.out with ⟨q, _⟩ | ⟨b, o, c, e, h1, h2, h3, h4⟩
            · exact absurd q (by omega)
            · injection e with e1 e2 e3
              exact ⟨b, o, e1, by omega, by omega, h3, h4⟩
          subst hsl
          change w1.cell? ⟨1, 27, none⟩ = some (.int .i64 2) at hkf
          have hb2 : Below w.heap.size w (w1.drew.alloc (.cells #[.int .u16 0, .int .u32 0, .bool false] 127)) := Below.thr (Below.thr HB1.out (below_d _)) (alloc_below _)
          have hM2 := (HM1.out.below (below_d w1)).below (alloc_below (.cells #[.int .u16 0, .int .u32 0, .bool false] 127))
          have HAt := hideIt (fun w' (k : Below w1.heap.size w1 w') => at_walk4 (HM1.out.below k) r1)
          have HFl := hideIt (fill_walk4 (w := w1.drew.alloc (.cells #[.int .u16 0, .int .u32 0, .bool false] 127)) (B := rb 4) (o := r * nC 4) (N := w1.heap.size) (gb := gb) (go := go) (cap := cap) (heap_new _ _) (fun j hj => ⟨(hM2.row 4 (by omega) r r1).isSome j (by rw [rowL_len]; exact hj), hM2.rfz 4 (by omega) _⟩) (Nat.ne_of_lt (HM1.out.rlt (by omega))) (hwd.ext (Ext.of_below hb2 (fun _ => False)) hgl id) (Nat.ne_of_lt (Nat.lt_of_lt_of_le hgl HB1.out.size)) hcap)
          have HM2 := hideIt hM2
          have HB2 := hideIt hb2
          have KAf : Hid (∀ q w3, FlPost 4 (rb 4) (r * nC 4) w1.heap.size X (w1.drew.alloc (.cells #[.int .u16 0, .int .u32 0, .bool false] 127)) (.returned (.bool q)) w3 → w3.cell? ⟨A, i * 8 + 2, none⟩ = some (.int .u16 (r : Int)) ∧ Ext w1.heap.size (fun b => b = rb 4) w1 w3) := fun q w3 hf => by
            have hx := hf.frm (Below.thr (below_d w1) (alloc_below _)) (Nat.le_refl _)
            exact ⟨(hx.cell (p := ⟨A, i * 8 + 2, none⟩) HM1.out.am.lt (HM1.out.ar 4 (by omega)).1.symm).trans erw, hx⟩
          clear hwd hgl hb2 hM2 HK hcap hml
          go_wp2_with fail
          go_region_held3 (fun w' => w'.cell? ⟨A, i * 8 + 2, none⟩ = some (.int .u16 (r : Int)) ∧ Ext w1.heap.size (fun b => b = rb 4) w1 w') (first | (have hy := hfk; exact hy) | exact ⟨erw, Ext.of_below (below_d _) _⟩ | exact ⟨((Below.thr (below_d w1) (alloc_below _)).cell (p := ⟨A, i * 8 + 2, none⟩) (cell_lt erw)).trans erw, Ext.of_below (Below.thr (below_d w1) (alloc_below _)) _⟩)
              ((first
                | (go_at_call 114; refine (HAt.out _ (by first | exact below_d _ | exact Below.thr (below_d w1) (alloc_below _))).mono ?_; rintro e w2 ⟨rfl, hw2⟩; subst hw2)
                | (go_at_call 187; refine HFl.out.mono ?_; rintro e w3 hfl; obtain ⟨q, rfl⟩ := hfl.ret; have hfk := KAf.out _ _ hfl)))
          all_goals
            clear hfk
            cases q
            · obtain ⟨hfb, hb5, hb6⟩ := hfl.bad HB2.out HB1.out.size
              have HX := hideIt (staX_bad (ws := ws) HL.out HEK.out HER.out hfb)
              clear hfb
              have hz5 := (hb6 w.heap.size (by have := heap_lt HZ1.out; simp; omega) (Nat.ne_of_lt (heap_lt HZ1.out))).trans ((heap_alloc_old _ _ (show w.heap.size < w1.drew.heap.size from heap_lt HZ1.out)).trans (show w1.drew.heap[w.heap.size]? = _ from HZ1.out))
              obtain ⟨y0, y1, _, _⟩ := two_cells hz5
              have HB5 := hideIt hb5
              clear hfl hb5 hb6 hz5
              go_wp2_with (go_at_call 123; refine (refuse_walk _ _ _ _ _ _).mono ?_; rintro e w2 ⟨v2, rfl, hv2, hb2⟩; have HF : Hid (MrPost A rb sb s tl ws (staX (ob s ws) i g (xl X 2)) w (.returned v2) w2) := MrPost.err HX.out ⟨hv2, by omega, Below.thr HB5.out hb2⟩; clear hv2 hb2)
              exact bodyPost_ret (by simp [results, Tryz.results64]) rfl HF.out
            · have HF : Hid (MrPost A rb sb s tl ws (staX (ob s ws) i g (xl X 2)) w (.returned .nilIface) w3) := hfl.good HB2.out HM2.out HI.out HW.out HL.out.1 (by omega) HEK.out HER.out r1 HB1.out.size HM1.out.ntz (fun hq => staX_ok (t := 4) HL.out HEK.out HER.out hq (fun f hf => by unfold cut; rw [if_pos hf]))
              clear hfl
              go_wp2_with fail
              exact bodyPost_ret (by simp [results, Tryz.results64]) rfl HF.out
        · change w1.cell? ⟨A, i * 8 + 1, none⟩ = some (.int .u8 7) at htc
          change r < nR 5 at r1
          have hm2 : m = 4 := hm
          clear hm hm' k8
          subst hm2
          obtain ⟨gb, go, hsl, hcap, hml, hgl, hwd⟩ : ∃ gb go, (ad = some ⟨gb, go, none⟩) ∧ 4 ≤ cap ∧ cap ≤ maxLen ∧ gb < w.heap.size ∧ Words w gb go 4 X := by
            rcases HV.out with ⟨q, _⟩ | ⟨b, o, c, e, h1, h2, h3, h4⟩
            · exact absurd q (by omega)
            · injection e with e1 e2 e3
              exact ⟨b, o, e1, by omega, by omega, h3, h4⟩
          subst hsl
          change w1.cell? ⟨1, 31, none⟩ = some (.int .i64 4) at hkf
          have hb2 : Below w.heap.size w (w1.drew.alloc (.cells #[.int .u8 0, .int .u16 0, .int .u32 0, .int .u64 0, .bool false] 133)) := Below.thr (Below.thr HB1.out (below_d _)) (alloc_below _)
          have hM2 := (HM1.out.below (below_d w1)).below (alloc_below (.cells #[.int .u8 0, .int .u16 0, .int .u32 0, .int .u64 0, .bool false] 133))
          have HAt := hideIt (fun w' (k : Below w1.heap.size w1 w') => at_walk5 (HM1.out.below k) r1)
          have HFl := hideIt (fill_walk5 (w := w1.drew.alloc (.cells #[.int .u8 0, .int .u16 0, .int .u32 0, .int .u64 0, .bool false] 133)) (B := rb 5) (o := r * nC 5) (N := w1.heap.size) (gb := gb) (go := go) (cap := cap) (heap_new _ _) (fun j hj => ⟨(hM2.row 5 (by omega) r r1).isSome j (by rw [rowL_len]; exact hj), hM2.rfz 5 (by omega) _⟩) (Nat.ne_of_lt (HM1.out.rlt (by omega))) (hwd.ext (Ext.of_below hb2 (fun _ => False)) hgl id) (Nat.ne_of_lt (Nat.lt_of_lt_of_le hgl HB1.out.size)) hcap)
          have HM2 := hideIt hM2
          have HB2 := hideIt hb2
          have KAf : Hid (∀ q w3, FlPost 5 (rb 5) (r * nC 5) w1.heap.size X (w1.drew.alloc (.cells #[.int .u8 0, .int .u16 0, .int .u32 0, .int .u64 0, .bool false] 133)) (.returned (.bool q)) w3 → w3.cell? ⟨A, i * 8 + 2, none⟩ = some (.int .u16 (r : Int)) ∧ Ext w1.heap.size (fun b => b = rb 5) w1 w3) := fun q w3 hf => by
            have hx := hf.frm (Below.thr (below_d w1) (alloc_below _)) (Nat.le_refl _)
            exact ⟨(hx.cell (p := ⟨A, i * 8 + 2, none⟩) HM1.out.am.lt (HM1.out.ar 5 (by omega)).1.symm).trans erw, hx⟩
          clear hwd hgl hb2 hM2 HK hcap hml
          go_wp2_with fail
          go_region_held3 (fun w' => w'.cell? ⟨A, i * 8 + 2, none⟩ = some (.int .u16 (r : Int)) ∧ Ext w1.heap.size (fun b => b = rb 5) w1 w') (first | (have hy := hfk; exact hy) | exact ⟨erw, Ext.of_below (below_d _) _⟩ | exact ⟨((Below.thr (below_d w1) (alloc_below _)).cell (p := ⟨A, i * 8 + 2, none⟩) (cell_lt erw)).trans erw, Ext.of_below (Below.thr (below_d w1) (alloc_below _)) _⟩)
              ((first
                | (go_at_call 115; refine (HAt.out _ (by first | exact below_d _ | exact Below.thr (below_d w1) (alloc_below _))).mono ?_; rintro e w2 ⟨rfl, hw2⟩; subst hw2)
                | (go_at_call 188; refine HFl.out.mono ?_; rintro e w3 hfl; obtain ⟨q, rfl⟩ := hfl.ret; have hfk := KAf.out _ _ hfl)))
          all_goals
            clear hfk
            cases q
            · obtain ⟨hfb, hb5, hb6⟩ := hfl.bad HB2.out HB1.out.size
              have HX := hideIt (staX_bad (ws := ws) HL.out HEK.out HER.out hfb)
              clear hfb
              have hz5 := (hb6 w.heap.size (by have := heap_lt HZ1.out; simp; omega) (Nat.ne_of_lt (heap_lt HZ1.out))).trans ((heap_alloc_old _ _ (show w.heap.size < w1.drew.heap.size from heap_lt HZ1.out)).trans (show w1.drew.heap[w.heap.size]? = _ from HZ1.out))
              obtain ⟨y0, y1, _, _⟩ := two_cells hz5
              have HB5 := hideIt hb5
              clear hfl hb5 hb6 hz5
              go_wp2_with (go_at_call 123; refine (refuse_walk _ _ _ _ _ _).mono ?_; rintro e w2 ⟨v2, rfl, hv2, hb2⟩; have HF : Hid (MrPost A rb sb s tl ws (staX (ob s ws) i g (xl X 4)) w (.returned v2) w2) := MrPost.err HX.out ⟨hv2, by omega, Below.thr HB5.out hb2⟩; clear hv2 hb2)
              exact bodyPost_ret (by simp [results, Tryz.results64]) rfl HF.out
            · have HF : Hid (MrPost A rb sb s tl ws (staX (ob s ws) i g (xl X 4)) w (.returned .nilIface) w3) := hfl.good HB2.out HM2.out HI.out HW.out HL.out.1 (by omega) HEK.out HER.out r1 HB1.out.size HM1.out.ntz (fun hq => staX_ok (t := 5) HL.out HEK.out HER.out hq (fun f hf => by unfold cut; rw [if_pos hf]))
              clear hfl
              go_wp2_with fail
              exact bodyPost_ret (by simp [results, Tryz.results64]) rfl HF.out
    · have hm' : ((m : Int) != (kFlds k : Int)) = true := by rw [bne_iff_ne]; omega
      have HX := hideIt (staX_len (ws := ws) HL.out (l := xl X m) (by rw [xl_len, wds_len HI.out HL.out.1 HEK.out]; exact hm))
      generalize kFlds k = kf at *
      go_wp2_with (go_at_call 123; refine (refuse_walk _ _ _ _ _ _).mono ?_; rintro e w2 ⟨v2, rfl, hv2, hb2⟩; have HF : Hid (MrPost A rb sb s tl ws (staX (ob s ws) i g (xl X m)) w (.returned v2) w2) := MrPost.err HX.out ⟨hv2, by omega, Below.thr HB1.out hb2⟩; clear hv2 hb2)
      exact bodyPost_ret (by simp [results, Tryz.results64]) rfl HF.out
  · obtain ⟨b, rfl, hbc⟩ := hv0
    have HF : Hid (MrPost A rb sb s tl ws (staX (ob s ws) i g (xl X m)) w (.returned (.iface 212 (.pointer (some ⟨b, 0, none⟩)))) w1) := MrPost.err (staX_dead hl _) ⟨⟨b, rfl, hbc⟩, stale_ne i g, HB1.out⟩
    clear hbc hl
    go_wp2_with fail
    exact bodyPost_ret (by simp [results, Tryz.results64]) rfl HF.out
end
end Go.Proofs.Qxb6500847aGreatDoor.Os
