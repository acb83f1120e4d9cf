/-
  ImageIsInjective: two equal models are the same.
-/
import Derived.Test.Qxb6500847aGreatDoorOxSm
import Derived.Test.Qxb6500847aGreatDoorMdSs
import Derived.Test.Qxb6500847aGreatDoorMdK
import Derived.Test.Qxb6500847aGreatDoorDfGb
import Derived.Deep.RegionHeld3
namespace Go.Proofs.Qxb6500847aGreatDoor.Os
open Go.RowKit FloorA
set_option maxRecDepth 100000
theorem sq_at {w : World} {B n c : Nat} {a : Option Addr} {xs : List Value} (h : Sq B w (.slice a n c) n xs) : 0 < n → ∃ b o, a = some ⟨b, o, none⟩ ∧ B ≤ b ∧ w.rangeAt b o xs := by
  obtain ⟨ad, cap, e, g⟩ := h
  injection e with e1 _ _
  subst e1
  exact g
theorem wdv_isu {w : World} {g : Nat} {xs : List Int} {v : Value} (h : WdV w g xs v) : IsU 0 w v xs := by
  rcases h with ⟨rfl, ad, c, rfl⟩ | ⟨_, c, rfl, _, _, hr, _⟩
  · exact ⟨ad, c, rfl, fun z => absurd z (Nat.lt_irrefl 0)⟩
  · exact ⟨_, c, rfl, fun _ => ⟨g, 0, rfl, Nat.zero_le _, hr⟩⟩
set_option maxHeartbeats 4000000 in
theorem entrySame {w : World} {ge ty ba si pa : Int} {v1 v2 : Value} {V : List Int} (hu1 : IsU 0 w v1 V) (hu2 : IsU 0 w v2 V) (hV : V.length ≤ 112) :
    Calls Tryz.prog 109 #[.agg #[.int .u32 ge, .int .u8 ty, .int .u64 ba, .int .u64 si, .int .i64 pa, v1], .agg #[.int .u32 ge, .int .u8 ty, .int .u64 ba, .int .u64 si, .int .i64 pa, v2]] w fun e w' => e = .returned (.bool true) ∧ Below w.heap.size w w' := by
  obtain ⟨a1, c1, rfl, _⟩ := id hu1
  obtain ⟨a2, c2, rfl, _⟩ := id hu2
  have bB := two_below (w := w) (.cells #[.int .u32 ge, .int .u8 ty, .int .u64 ba, .int .u64 si, .int .i64 pa, .slice a1 V.length c1] 147) (.cells #[.int .u32 ge, .int .u8 ty, .int .u64 ba, .int .u64 si, .int .i64 pa, .slice a2 V.length c2] 147)
  have ha1 : ((w.alloc (.cells #[.int .u32 ge, .int .u8 ty, .int .u64 ba, .int .u64 si, .int .i64 pa, .slice a1 V.length c1] 147)).alloc (.cells #[.int .u32 ge, .int .u8 ty, .int .u64 ba, .int .u64 si, .int .i64 pa, .slice a2 V.length c2] 147)).heap[w.heap.size]? = some (.cells #[.int .u32 ge, .int .u8 ty, .int .u64 ba, .int .u64 si, .int .i64 pa, .slice a1 V.length c1] 147 (0, 0)) := (heap_alloc_old _ _ (by simp)).trans (heap_new _ _)
  have ha2 : ((w.alloc (.cells #[.int .u32 ge, .int .u8 ty, .int .u64 ba, .int .u64 si, .int .i64 pa, .slice a1 V.length c1] 147)).alloc (.cells #[.int .u32 ge, .int .u8 ty, .int .u64 ba, .int .u64 si, .int .i64 pa, .slice a2 V.length c2] 147)).heap[w.heap.size + 1]? = some (.cells #[.int .u32 ge, .int .u8 ty, .int .u64 ba, .int .u64 si, .int .i64 pa, .slice a2 V.length c2] 147 (0, 0)) := new_at _ _ (Deep.nblk_alloc _ _)
  have k1 := Sq.below hu1 bB
  have k2 := Sq.below hu2 bB
  clear hu1 hu2
  have HB := hideIt bB
  have z0 : ((w.alloc (.cells #[.int .u32 ge, .int .u8 ty, .int .u64 ba, .int .u64 si, .int .i64 pa, .slice a1 V.length c1] 147)).alloc (.cells #[.int .u32 ge, .int .u8 ty, .int .u64 ba, .int .u64 si, .int .i64 pa, .slice a2 V.length c2] 147)).cell? ⟨w.heap.size, 0, none⟩ = some (.int .u32 ge) := box_cell ha1 0
  have z1 : ((w.alloc (.cells #[.int .u32 ge, .int .u8 ty, .int .u64 ba, .int .u64 si, .int .i64 pa, .slice a1 V.length c1] 147)).alloc (.cells #[.int .u32 ge, .int .u8 ty, .int .u64 ba, .int .u64 si, .int .i64 pa, .slice a2 V.length c2] 147)).cell? ⟨w.heap.size, 1, none⟩ = some (.int .u8 ty) := box_cell ha1 1
  have z2 : ((w.alloc (.cells #[.int .u32 ge, .int .u8 ty, .int .u64 ba, .int .u64 si, .int .i64 pa, .slice a1 V.length c1] 147)).alloc (.cells #[.int .u32 ge, .int .u8 ty, .int .u64 ba, .int .u64 si, .int .i64 pa, .slice a2 V.length c2] 147)).cell? ⟨w.heap.size, 2, none⟩ = some (.int .u64 ba) := box_cell ha1 2
  have z3 : ((w.alloc (.cells #[.int .u32 ge, .int .u8 ty, .int .u64 ba, .int .u64 si, .int .i64 pa, .slice a1 V.length c1] 147)).alloc (.cells #[.int .u32 ge, .int .u8 ty, .int .u64 ba, .int .u64 si, .int .i64 pa, .slice a2 V.length c2] 147)).cell? ⟨w.heap.size, 3, none⟩ = some (.int .u64 si) := box_cell ha1 3
  have z4 : ((w.alloc (.cells #[.int .u32 ge, .int .u8 ty, .int .u64 ba, .int .u64 si, .int .i64 pa, .slice a1 V.length c1] 147)).alloc (.cells #[.int .u32 ge, .int .u8 ty, .int .u64 ba, .int .u64 si, .int .i64 pa, .slice a2 V.length c2] 147)).cell? ⟨w.heap.size, 4, none⟩ = some (.int .i64 pa) := box_cell ha1 4
  have z5 : ((w.alloc (.cells #[.int .u32 ge, .int .u8 ty, .int .u64 ba, .int .u64 si, .int .i64 pa, .slice a1 V.length c1] 147)).alloc (.cells #[.int .u32 ge, .int .u8 ty, .int .u64 ba, .int .u64 si, .int .i64 pa, .slice a2 V.length c2] 147)).cell? ⟨w.heap.size, 5, none⟩ = some (.slice a1 V.length c1) := box_cell ha1 5
  have y0 : ((w.alloc (.cells #[.int .u32 ge, .int .u8 ty, .int .u64 ba, .int .u64 si, .int .i64 pa, .slice a1 V.length c1] 147)).alloc (.cells #[.int .u32 ge, .int .u8 ty, .int .u64 ba, .int .u64 si, .int .i64 pa, .slice a2 V.length c2] 147)).cell? ⟨w.heap.size + 1, 0, none⟩ = some (.int .u32 ge) := box_cell ha2 0
  have y1 : ((w.alloc (.cells #[.int .u32 ge, .int .u8 ty, .int .u64 ba, .int .u64 si, .int .i64 pa, .slice a1 V.length c1] 147)).alloc (.cells #[.int .u32 ge, .int .u8 ty, .int .u64 ba, .int .u64 si, .int .i64 pa, .slice a2 V.length c2] 147)).cell? ⟨w.heap.size + 1, 1, none⟩ = some (.int .u8 ty) := box_cell ha2 1
  have y2 : ((w.alloc (.cells #[.int .u32 ge, .int .u8 ty, .int .u64 ba, .int .u64 si, .int .i64 pa, .slice a1 V.length c1] 147)).alloc (.cells #[.int .u32 ge, .int .u8 ty, .int .u64 ba, .int .u64 si, .int .i64 pa, .slice a2 V.length c2] 147)).cell? ⟨w.heap.size + 1, 2, none⟩ = some (.int .u64 ba) := box_cell ha2 2
  have y3 : ((w.alloc (.cells #[.int .u32 ge, .int .u8 ty, .int .u64 ba, .int .u64 si, .int .i64 pa, .slice a1 V.length c1] 147)).alloc (.cells #[.int .u32 ge, .int .u8 ty, .int .u64 ba, .int .u64 si, .int .i64 pa, .slice a2 V.length c2] 147)).cell? ⟨w.heap.size + 1, 3, none⟩ = some (.int .u64 si) := box_cell ha2 3
  have y4 : ((w.alloc (.cells #[.int .u32 ge, .int .u8 ty, .int .u64 ba, .int .u64 si, .int .i64 pa, .slice a1 V.length c1] 147)).alloc (.cells #[.int .u32 ge, .int .u8 ty, .int .u64 ba, .int .u64 si, .int .i64 pa, .slice a2 V.length c2] 147)).cell? ⟨w.heap.size + 1, 4, none⟩ = some (.int .i64 pa) := box_cell ha2 4
  have y5 : ((w.alloc (.cells #[.int .u32 ge, .int .u8 ty, .int .u64 ba, .int .u64 si, .int .i64 pa, .slice a1 V.length c1] 147)).alloc (.cells #[.int .u32 ge, .int .u8 ty, .int .u64 ba, .int .u64 si, .int .i64 pa, .slice a2 V.length c2] 147)).cell? ⟨w.heap.size + 1, 5, none⟩ = some (.slice a2 V.length c2) := box_cell ha2 5
  have HF1 := hideIt (sq_at k1)
  have HF2 := hideIt (sq_at k2)
  clear k1 k2 bB ha1 ha2
  go_enter Tryz.func109, Tryz.ntmps109
  go_upto_region 1 with fail
  generalize (w.alloc (.cells #[.int .u32 ge, .int .u8 ty, .int .u64 ba, .int .u64 si, .int .i64 pa, .slice a1 V.length c1] 147)).alloc (.cells #[.int .u32 ge, .int .u8 ty, .int .u64 ba, .int .u64 si, .int .i64 pa, .slice a2 V.length c2] 147) = w0 at *
  have HZ5 := hideIt z5
  have HY5 := hideIt y5
  go_wp2_with fail
  clear z0 z1 z2 z3 z4 z5 y0 y1 y2 y3 y4 y5
  go_loopw [51] (fun v51 wr => ∃ k : Nat, k ≤ V.length ∧ v51 = .int .i64 (k : Int) ∧ Below w0.heap.size w0 wr) (fun i _ => V.length - (intOf i).toNat)
  case atStart => exact ⟨0, Nat.zero_le _, rfl, Below.refl _ _⟩
  case round =>
    obtain ⟨j, hj, rfl, hbr⟩ := hrel
    have z5 := (hbr.cell (p := ⟨w.heap.size, 5, none⟩) (cell_lt HZ5.out)).trans HZ5.out
    have y5 := (hbr.cell (p := ⟨w.heap.size + 1, 5, none⟩) (cell_lt HY5.out)).trans HY5.out
    have HBS := hideIt hbr
    by_cases hlj : j < V.length
    · have hlj' : (j : Int) < (V.length : Int) := by omega
      obtain ⟨b2, o2, rfl, _, g2⟩ := HF1.out (by omega)
      obtain ⟨b4, o4, rfl, _, g4⟩ := HF2.out (by omega)
      have q1 : (V.map (Value.int .u64))[j]? = some (.int .u64 V[j]) := by rw [List.getElem?_map, List.getElem?_eq_getElem hlj]; rfl
      have x0 := (hbr.cell (p := ⟨b2, o2 + j, none⟩) (cell_lt (g2 _ _ q1))).trans (g2 _ _ q1)
      have x2 := (hbr.cell (p := ⟨b4, o4 + j, none⟩) (cell_lt (g4 _ _ q1))).trans (g4 _ _ q1)
      clear q1 g2 g4 hbr
      generalize V[j] = vi at *
      go_wp2_with fail
      go_region
      all_goals
        go_wp2_with fail
        go_roundw
        case rel => exact ⟨j + 1, by omega, by go_num, Below.thr HBS.out (below_d _)⟩
        case measure => simp [intOf]; omega
    · obtain rfl : j = V.length := by omega
      clear hbr
      go_wp2_with fail
      go_ret
      exact ⟨rfl, Below.thr HB.out HBS.out⟩
section
variable {w : World} {B C : Nat} {wb wc : Nat → Nat} {M : Nat → En}
set_option maxHeartbeats 8000000 in
theorem modelSame (h : Md w B wb M) (k : Md w C wc M) (hM : Mk M) : Calls Tryz.prog 30 #[.pointer (some ⟨B, 0, none⟩), .pointer (some ⟨C, 0, none⟩)] w fun e w' => e = .returned (.bool true) ∧ Below w.heap.size w w' := by
  have H1 := hideIt h
  have H2 := hideIt k
  have HMk := hideIt hM
  clear h k hM
  go_enter Tryz.func30, Tryz.ntmps30
  go_wp2_with fail
  go_loopw [6] (fun v6 wr => ∃ i : Nat, i ≤ 320 ∧ v6 = .int .i64 (i : Int) ∧ Below w.heap.size w wr) (fun i _ => 320 - (intOf i).toNat)
  case atStart => exact ⟨0, Nat.zero_le _, rfl, Below.refl _ _⟩
  case round =>
    obtain ⟨i, hi, rfl, hbr⟩ := hrel
    have HBR := hideIt hbr
    by_cases hlt : i < 320
    · have hlt' : (i : Int) < 320 := by omega
      have K1 := H1.out.below hbr
      have K2 := H2.out.below hbr
      obtain ⟨v1, cv1, d1⟩ := K1.wrd i hlt
      obtain ⟨v2, cv2, d2⟩ := K2.wrd i hlt
      have hu1 : IsU 0 wr v1 (M i).wds := (wdv_isu d1)
      have hu2 : IsU 0 wr v2 (M i).wds := (wdv_isu d2)
      have HES := hideIt (fun (W : World) (hW : Below wr.heap.size wr W) => entrySame (ge := (M i).gen) (ty := (M i).typ) (ba := (M i).bas) (si := (M i).siz) (pa := pz (M i).par) (Sq.below hu1 hW) (Sq.below hu2 hW) (HMk.out.wlen i hlt))
      obtain ⟨a1, c1, hf1⟩ := d1.form
      obtain ⟨a2, c2, hf2⟩ := d2.form
      subst hf1 hf2
      have HC : Hid (∀ W, Below wr.heap.size wr W → W.cell? ⟨B, i * 6, none⟩ = some (.int .u32 (M i).gen) ∧ W.cell? ⟨B, i * 6 + 1, none⟩ = some (.int .u8 (M i).typ) ∧ W.cell? ⟨B, i * 6 + 2, none⟩ = some (.int .u64 (M i).bas) ∧ W.cell? ⟨B, i * 6 + 3, none⟩ = some (.int .u64 (M i).siz) ∧ W.cell? ⟨B, i * 6 + 4, none⟩ = some (.int .i64 (pz (M i).par)) ∧ W.cell? ⟨B, i * 6 + 5, none⟩ = some (.slice a1 (M i).wds.length c1)
          ∧ W.cell? ⟨C, i * 6, none⟩ = some (.int .u32 (M i).gen) ∧ W.cell? ⟨C, i * 6 + 1, none⟩ = some (.int .u8 (M i).typ) ∧ W.cell? ⟨C, i * 6 + 2, none⟩ = some (.int .u64 (M i).bas) ∧ W.cell? ⟨C, i * 6 + 3, none⟩ = some (.int .u64 (M i).siz) ∧ W.cell? ⟨C, i * 6 + 4, none⟩ = some (.int .i64 (pz (M i).par)) ∧ W.cell? ⟨C, i * 6 + 5, none⟩ = some (.slice a2 (M i).wds.length c2)) := fun W hW => by
        have q1 := K1.below hW
        have q2 := K2.below hW
        exact ⟨q1.gen hlt, q1.typ hlt, q1.bas hlt, q1.siz hlt, q1.par hlt, (hW.cell (p := ⟨B, i * 6 + 5, none⟩) (cell_lt cv1)).trans cv1, q2.gen hlt, q2.typ hlt, q2.bas hlt, q2.siz hlt, q2.par hlt, (hW.cell (p := ⟨C, i * 6 + 5, none⟩) (cell_lt cv2)).trans cv2⟩
      clear K1 K2 cv1 cv2 d1 d2 hu1 hu2 hbr
      generalize (M i).gen = ge at *
      generalize (M i).typ = ty at *
      generalize (M i).bas = ba at *
      generalize (M i).siz = si at *
      generalize pz (M i).par = pa at *
      generalize (M i).wds.length = wl at *
      go_wp2_with fail
      go_region_held3 (fun W => W.cell? ⟨B, i * 6, none⟩ = some (.int .u32 ge) ∧ W.cell? ⟨B, i * 6 + 1, none⟩ = some (.int .u8 ty) ∧ W.cell? ⟨B, i * 6 + 2, none⟩ = some (.int .u64 ba) ∧ W.cell? ⟨B, i * 6 + 3, none⟩ = some (.int .u64 si) ∧ W.cell? ⟨B, i * 6 + 4, none⟩ = some (.int .i64 pa) ∧ W.cell? ⟨B, i * 6 + 5, none⟩ = some (.slice a1 wl c1)
          ∧ W.cell? ⟨C, i * 6, none⟩ = some (.int .u32 ge) ∧ W.cell? ⟨C, i * 6 + 1, none⟩ = some (.int .u8 ty) ∧ W.cell? ⟨C, i * 6 + 2, none⟩ = some (.int .u64 ba) ∧ W.cell? ⟨C, i * 6 + 3, none⟩ = some (.int .u64 si) ∧ W.cell? ⟨C, i * 6 + 4, none⟩ = some (.int .i64 pa) ∧ W.cell? ⟨C, i * 6 + 5, none⟩ = some (.slice a2 wl c2)) (first | exact HC.out _ (below_d _) | exact HC.out _ (Below.thr (below_d _) HB3.out) | go_keep)
        (first
          | (go_at_call 109; refine (HES.out _ (below_d _)).mono ?_; rintro e w3 ⟨rfl, hb3⟩; have HB3 := hideIt hb3; clear hb3))
      all_goals
        go_wp2_with fail
        go_roundw
        case rel => exact ⟨i + 1, by omega, by go_num, Below.thr HBR.out (Below.thr (below_d _) HB3.out)⟩
        case measure => simp [intOf]; omega
    · obtain rfl : i = 320 := by omega
      go_wp2_with fail
      go_ret
      exact ⟨rfl, HBR.out⟩
end
end Go.Proofs.Qxb6500847aGreatDoor.Os
