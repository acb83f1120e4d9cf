/-
  rowOf, payloadOf.
-/
import Derived.Test.Qxb6500847aGreatDoorOsT
import Derived.Test.Qxb6500847aGreatDoorOsY
namespace Go.Proofs.Qxb6500847aGreatDoor.Os
open Go.RowKit FloorA
set_option maxRecDepth 100000
section
variable {A : Nat} {rb sb : Nat → Nat} {s : Av} {tl : Nat → List Int} {ws : Nat → Nat → Nat → Int} {w : World}
/-- A pointer to the row of a live object of type t + 2, or a refusal. -/
def RwPost (t : Nat) (rb : Nat → Nat) (s : Av) (i : Nat) (g : Int) (w : World) (e : Ending) (w' : World) : Prop :=
  Below w.heap.size w w' ∧ ((Live s i g ∧ (s.hd i).typ = ((t + 2 : Nat) : Int) ∧ ∃ r : Nat, (s.hd i).row = (r : Int) ∧ r < nR t ∧ e = .returned (.tuple #[.pointer (some ⟨rb t, r * nC t, none⟩), .nilIface])) ∨ (¬ (Live s i g ∧ (s.hd i).typ = ((t + 2 : Nat) : Int)) ∧ ∃ v code, e = .returned (.tuple #[.pointer none, v]) ∧ code ≠ 0 ∧ IsErr w' v code ∧ code = (if Live s i g then 3 else stale i g)))

set_option maxHeartbeats 1600000 in
theorem rowOf_walk0 (h : Ms w A rb sb s tl ws) (hb : Tb s tl) (hK : Kd w) (kl : 1 < w.heap.size) (i : Nat) (g : Int) (c : ByteArray) :
    Calls Tryz.prog 249 #[.pointer (some ⟨A, 0, none⟩), .pointer (some ⟨A, 2886, none⟩), .string c, .agg #[.int .u16 (i : Int), .int .u32 g], .int .u8 2] w (RwPost 0 rb s i g w) := by
  have bB := alloc_below (w := w) (.cells #[.int .u16 (i : Int), .int .u32 g] 32)
  have hz : (w.alloc (.cells #[.int .u16 (i : Int), .int .u32 g] 32)).heap[w.heap.size]? = some (.cells #[.int .u16 (i : Int), .int .u32 g] 32 (0, 0)) := heap_new _ _
  have HM := hideIt (h.below bB)
  have HB := hideIt bB
  have HT : Hid (Tb s tl) := hb
  have HK : Hid (Kd w) := hK
  clear h hb bB hK
  go_enter Tryz.func249, Tryz.ntmps249
  go_wp2_with fail
  go_at_call 98
  refine (resolve_walk HM.out.am i g c).mono ?_
  rintro e w1 ⟨hb1, hh⟩
  have HB1 := hideIt (Below.thr HB.out hb1)
  have HM1 := hideIt (HM.out.below hb1)
  have l0 : w.heap.size < w1.heap.size := Nat.lt_of_lt_of_le (heap_lt hz) hb1.size
  have hx := (hb1.block w.heap.size (heap_lt hz)).trans hz
  have x0 := box_cell hx 0
  have x1 := box_cell hx 1
  simp only [List.getElem?_toArray, List.getElem?_cons_zero, List.getElem?_cons_succ] at x0 x1
  clear hb1 hz hx
  rcases hh with ⟨hl, rfl⟩ | ⟨hl, v, rfl, hv⟩
  · have ht := HM1.out.am.typ hl.1
    have hr := HM1.out.am.rw hl.1
    have HL := hideIt hl
    clear hl
    by_cases h1 : (s.hd i).typ = 2
    · rw [h1] at ht
      obtain ⟨r, er, r1, _⟩ := HT.out.row i 2 HL.out.1 (by omega) (by omega) h1
      rw [er] at hr
      have HF : Hid (RwPost 0 rb s i g w (.returned (.tuple #[.pointer (some ⟨rb 0, r * nC 0, none⟩), .nilIface])) w1) := ⟨HB1.out, Or.inl ⟨HL.out, h1, r, er, r1, rfl⟩⟩
      have HA := hideIt (at_walk0 HM1.out r1)
      clear h1 er r1
      go_wp2_with (go_at_call 110; refine HA.out.mono ?_; rintro e w' ⟨rfl, hw'⟩; obtain rfl := hw'.symm)
      exact bodyPost_ret (by simp [results, Tryz.results249] <;> (first | rfl | exact ⟨rfl, rfl⟩)) rfl HF.out
    · have k1 : ((s.hd i).typ != 2) = true := by rw [bne_iff_ne]; exact h1
      have HK1 : Hid (Kd w1.drew) := (show Kd w1 from HK.out.below HB1.out kl)
      have H1 : Hid (¬ (s.hd i).typ = 2) := h1
      clear h1
      go_wp2_with fail
      go_region_with (first | (go_at_call 133; refine (TypeName_walk HK1.out (t := 2) (by omega)).mono ?_; rintro e w' ⟨⟨nm, nms, rfl⟩, hw'⟩; obtain rfl := hw'.symm) | (go_at_call 123; refine (refuse_walk _ _ _ _ _ _).mono ?_; rintro e w2 ⟨v, rfl, hv, hb⟩))
      all_goals
        have HF : Hid (RwPost 0 rb s i g w (.returned (.tuple #[.pointer none, v])) w2) := ⟨Below.thr (Below.thr HB1.out (below_d _)) hb, Or.inr ⟨fun q => H1.out q.2, v, 3, rfl, by omega, hv, (if_pos HL.out).symm⟩⟩
        clear hv hb
        go_wp2_with fail
        exact bodyPost_ret (by simp [results, Tryz.results249] <;> (first | rfl | exact ⟨rfl, rfl⟩)) rfl HF.out
  · obtain ⟨b, rfl, hbc⟩ := hv
    have HF : Hid (RwPost 0 rb s i g w (.returned (.tuple #[.pointer none, .iface 212 (.pointer (some ⟨b, 0, none⟩))])) w1) := ⟨HB1.out, Or.inr ⟨fun q => hl q.1, _, _, rfl, stale_ne i g, ⟨b, rfl, hbc⟩, (if_neg hl).symm⟩⟩
    clear hbc hl
    go_wp2_with fail
    exact bodyPost_ret (by simp [results, Tryz.results249] <;> (first | rfl | exact ⟨rfl, rfl⟩)) rfl HF.out

set_option maxHeartbeats 1600000 in
theorem rowOf_walk1 (h : Ms w A rb sb s tl ws) (hb : Tb s tl) (hK : Kd w) (kl : 1 < w.heap.size) (i : Nat) (g : Int) (c : ByteArray) :
    Calls Tryz.prog 297 #[.pointer (some ⟨A, 0, none⟩), .pointer (some ⟨A, 2888, none⟩), .string c, .agg #[.int .u16 (i : Int), .int .u32 g], .int .u8 3] w (RwPost 1 rb s i g w) := by
  have bB := alloc_below (w := w) (.cells #[.int .u16 (i : Int), .int .u32 g] 32)
  have hz : (w.alloc (.cells #[.int .u16 (i : Int), .int .u32 g] 32)).heap[w.heap.size]? = some (.cells #[.int .u16 (i : Int), .int .u32 g] 32 (0, 0)) := heap_new _ _
  have HM := hideIt (h.below bB)
  have HB := hideIt bB
  have HT : Hid (Tb s tl) := hb
  have HK : Hid (Kd w) := hK
  clear h hb bB hK
  go_enter Tryz.func297, Tryz.ntmps297
  go_wp2_with fail
  go_at_call 98
  refine (resolve_walk HM.out.am i g c).mono ?_
  rintro e w1 ⟨hb1, hh⟩
  have HB1 := hideIt (Below.thr HB.out hb1)
  have HM1 := hideIt (HM.out.below hb1)
  have l0 : w.heap.size < w1.heap.size := Nat.lt_of_lt_of_le (heap_lt hz) hb1.size
  have hx := (hb1.block w.heap.size (heap_lt hz)).trans hz
  have x0 := box_cell hx 0
  have x1 := box_cell hx 1
  simp only [List.getElem?_toArray, List.getElem?_cons_zero, List.getElem?_cons_succ] at x0 x1
  clear hb1 hz hx
  rcases hh with ⟨hl, rfl⟩ | ⟨hl, v, rfl, hv⟩
  · have ht := HM1.out.am.typ hl.1
    have hr := HM1.out.am.rw hl.1
    have HL := hideIt hl
    clear hl
    by_cases h1 : (s.hd i).typ = 3
    · rw [h1] at ht
      obtain ⟨r, er, r1, _⟩ := HT.out.row i 3 HL.out.1 (by omega) (by omega) h1
      rw [er] at hr
      have HF : Hid (RwPost 1 rb s i g w (.returned (.tuple #[.pointer (some ⟨rb 1, r * nC 1, none⟩), .nilIface])) w1) := ⟨HB1.out, Or.inl ⟨HL.out, h1, r, er, r1, rfl⟩⟩
      have HA := hideIt (at_walk1 HM1.out r1)
      clear h1 er r1
      go_wp2_with (go_at_call 111; refine HA.out.mono ?_; rintro e w' ⟨rfl, hw'⟩; obtain rfl := hw'.symm)
      exact bodyPost_ret (by simp [results, Tryz.results297] <;> (first | rfl | exact ⟨rfl, rfl⟩)) rfl HF.out
    · have k1 : ((s.hd i).typ != 3) = true := by rw [bne_iff_ne]; exact h1
      have HK1 : Hid (Kd w1.drew) := (show Kd w1 from HK.out.below HB1.out kl)
      have H1 : Hid (¬ (s.hd i).typ = 3) := h1
      clear h1
      go_wp2_with fail
      go_region_with (first | (go_at_call 133; refine (TypeName_walk HK1.out (t := 3) (by omega)).mono ?_; rintro e w' ⟨⟨nm, nms, rfl⟩, hw'⟩; obtain rfl := hw'.symm) | (go_at_call 123; refine (refuse_walk _ _ _ _ _ _).mono ?_; rintro e w2 ⟨v, rfl, hv, hb⟩))
      all_goals
        have HF : Hid (RwPost 1 rb s i g w (.returned (.tuple #[.pointer none, v])) w2) := ⟨Below.thr (Below.thr HB1.out (below_d _)) hb, Or.inr ⟨fun q => H1.out q.2, v, 3, rfl, by omega, hv, (if_pos HL.out).symm⟩⟩
        clear hv hb
        go_wp2_with fail
        exact bodyPost_ret (by simp [results, Tryz.results297] <;> (first | rfl | exact ⟨rfl, rfl⟩)) rfl HF.out
  · obtain ⟨b, rfl, hbc⟩ := hv
    have HF : Hid (RwPost 1 rb s i g w (.returned (.tuple #[.pointer none, .iface 212 (.pointer (some ⟨b, 0, none⟩))])) w1) := ⟨HB1.out, Or.inr ⟨fun q => hl q.1, _, _, rfl, stale_ne i g, ⟨b, rfl, hbc⟩, (if_neg hl).symm⟩⟩
    clear hbc hl
    go_wp2_with fail
    exact bodyPost_ret (by simp [results, Tryz.results297] <;> (first | rfl | exact ⟨rfl, rfl⟩)) rfl HF.out

set_option maxHeartbeats 1600000 in
theorem rowOf_walk2 (h : Ms w A rb sb s tl ws) (hb : Tb s tl) (hK : Kd w) (kl : 1 < w.heap.size) (i : Nat) (g : Int) (c : ByteArray) :
    Calls Tryz.prog 298 #[.pointer (some ⟨A, 0, none⟩), .pointer (some ⟨A, 2890, none⟩), .string c, .agg #[.int .u16 (i : Int), .int .u32 g], .int .u8 4] w (RwPost 2 rb s i g w) := by
  have bB := alloc_below (w := w) (.cells #[.int .u16 (i : Int), .int .u32 g] 32)
  have hz : (w.alloc (.cells #[.int .u16 (i : Int), .int .u32 g] 32)).heap[w.heap.size]? = some (.cells #[.int .u16 (i : Int), .int .u32 g] 32 (0, 0)) := heap_new _ _
  have HM := hideIt (h.below bB)
  have HB := hideIt bB
  have HT : Hid (Tb s tl) := hb
  have HK : Hid (Kd w) := hK
  clear h hb bB hK
  go_enter Tryz.func298, Tryz.ntmps298
  go_wp2_with fail
  go_at_call 98
  refine (resolve_walk HM.out.am i g c).mono ?_
  rintro e w1 ⟨hb1, hh⟩
  have HB1 := hideIt (Below.thr HB.out hb1)
  have HM1 := hideIt (HM.out.below hb1)
  have l0 : w.heap.size < w1.heap.size := Nat.lt_of_lt_of_le (heap_lt hz) hb1.size
  have hx := (hb1.block w.heap.size (heap_lt hz)).trans hz
  have x0 := box_cell hx 0
  have x1 := box_cell hx 1
  simp only [List.getElem?_toArray, List.getElem?_cons_zero, List.getElem?_cons_succ] at x0 x1
  clear hb1 hz hx
  rcases hh with ⟨hl, rfl⟩ | ⟨hl, v, rfl, hv⟩
  · have ht := HM1.out.am.typ hl.1
    have hr := HM1.out.am.rw hl.1
    have HL := hideIt hl
    clear hl
    by_cases h1 : (s.hd i).typ = 4
    · rw [h1] at ht
      obtain ⟨r, er, r1, _⟩ := HT.out.row i 4 HL.out.1 (by omega) (by omega) h1
      rw [er] at hr
      have HF : Hid (RwPost 2 rb s i g w (.returned (.tuple #[.pointer (some ⟨rb 2, r * nC 2, none⟩), .nilIface])) w1) := ⟨HB1.out, Or.inl ⟨HL.out, h1, r, er, r1, rfl⟩⟩
      have HA := hideIt (at_walk2 HM1.out r1)
      clear h1 er r1
      go_wp2_with (go_at_call 112; refine HA.out.mono ?_; rintro e w' ⟨rfl, hw'⟩; obtain rfl := hw'.symm)
      exact bodyPost_ret (by simp [results, Tryz.results298] <;> (first | rfl | exact ⟨rfl, rfl⟩)) rfl HF.out
    · have k1 : ((s.hd i).typ != 4) = true := by rw [bne_iff_ne]; exact h1
      have HK1 : Hid (Kd w1.drew) := (show Kd w1 from HK.out.below HB1.out kl)
      have H1 : Hid (¬ (s.hd i).typ = 4) := h1
      clear h1
      go_wp2_with fail
      go_region_with (first | (go_at_call 133; refine (TypeName_walk HK1.out (t := 4) (by omega)).mono ?_; rintro e w' ⟨⟨nm, nms, rfl⟩, hw'⟩; obtain rfl := hw'.symm) | (go_at_call 123; refine (refuse_walk _ _ _ _ _ _).mono ?_; rintro e w2 ⟨v, rfl, hv, hb⟩))
      all_goals
        have HF : Hid (RwPost 2 rb s i g w (.returned (.tuple #[.pointer none, v])) w2) := ⟨Below.thr (Below.thr HB1.out (below_d _)) hb, Or.inr ⟨fun q => H1.out q.2, v, 3, rfl, by omega, hv, (if_pos HL.out).symm⟩⟩
        clear hv hb
        go_wp2_with fail
        exact bodyPost_ret (by simp [results, Tryz.results298] <;> (first | rfl | exact ⟨rfl, rfl⟩)) rfl HF.out
  · obtain ⟨b, rfl, hbc⟩ := hv
    have HF : Hid (RwPost 2 rb s i g w (.returned (.tuple #[.pointer none, .iface 212 (.pointer (some ⟨b, 0, none⟩))])) w1) := ⟨HB1.out, Or.inr ⟨fun q => hl q.1, _, _, rfl, stale_ne i g, ⟨b, rfl, hbc⟩, (if_neg hl).symm⟩⟩
    clear hbc hl
    go_wp2_with fail
    exact bodyPost_ret (by simp [results, Tryz.results298] <;> (first | rfl | exact ⟨rfl, rfl⟩)) rfl HF.out

set_option maxHeartbeats 1600000 in
theorem rowOf_walk3 (h : Ms w A rb sb s tl ws) (hb : Tb s tl) (hK : Kd w) (kl : 1 < w.heap.size) (i : Nat) (g : Int) (c : ByteArray) :
    Calls Tryz.prog 299 #[.pointer (some ⟨A, 0, none⟩), .pointer (some ⟨A, 2892, none⟩), .string c, .agg #[.int .u16 (i : Int), .int .u32 g], .int .u8 5] w (RwPost 3 rb s i g w) := by
  have bB := alloc_below (w := w) (.cells #[.int .u16 (i : Int), .int .u32 g] 32)
  have hz : (w.alloc (.cells #[.int .u16 (i : Int), .int .u32 g] 32)).heap[w.heap.size]? = some (.cells #[.int .u16 (i : Int), .int .u32 g] 32 (0, 0)) := heap_new _ _
  have HM := hideIt (h.below bB)
  have HB := hideIt bB
  have HT : Hid (Tb s tl) := hb
  have HK : Hid (Kd w) := hK
  clear h hb bB hK
  go_enter Tryz.func299, Tryz.ntmps299
  go_wp2_with fail
  go_at_call 98
  refine (resolve_walk HM.out.am i g c).mono ?_
  rintro e w1 ⟨hb1, hh⟩
  have HB1 := hideIt (Below.thr HB.out hb1)
  have HM1 := hideIt (HM.out.below hb1)
  have l0 : w.heap.size < w1.heap.size := Nat.lt_of_lt_of_le (heap_lt hz) hb1.size
  have hx := (hb1.block w.heap.size (heap_lt hz)).trans hz
  have x0 := box_cell hx 0
  have x1 := box_cell hx 1
  simp only [List.getElem?_toArray, List.getElem?_cons_zero, List.getElem?_cons_succ] at x0 x1
  clear hb1 hz hx
  rcases hh with ⟨hl, rfl⟩ | ⟨hl, v, rfl, hv⟩
  · have ht := HM1.out.am.typ hl.1
    have hr := HM1.out.am.rw hl.1
    have HL := hideIt hl
    clear hl
    by_cases h1 : (s.hd i).typ = 5
    · rw [h1] at ht
      obtain ⟨r, er, r1, _⟩ := HT.out.row i 5 HL.out.1 (by omega) (by omega) h1
      rw [er] at hr
      have HF : Hid (RwPost 3 rb s i g w (.returned (.tuple #[.pointer (some ⟨rb 3, r * nC 3, none⟩), .nilIface])) w1) := ⟨HB1.out, Or.inl ⟨HL.out, h1, r, er, r1, rfl⟩⟩
      have HA := hideIt (at_walk3 HM1.out r1)
      clear h1 er r1
      go_wp2_with (go_at_call 113; refine HA.out.mono ?_; rintro e w' ⟨rfl, hw'⟩; obtain rfl := hw'.symm)
      exact bodyPost_ret (by simp [results, Tryz.results299] <;> (first | rfl | exact ⟨rfl, rfl⟩)) rfl HF.out
    · have k1 : ((s.hd i).typ != 5) = true := by rw [bne_iff_ne]; exact h1
      have HK1 : Hid (Kd w1.drew) := (show Kd w1 from HK.out.below HB1.out kl)
      have H1 : Hid (¬ (s.hd i).typ = 5) := h1
      clear h1
      go_wp2_with fail
      go_region_with (first | (go_at_call 133; refine (TypeName_walk HK1.out (t := 5) (by omega)).mono ?_; rintro e w' ⟨⟨nm, nms, rfl⟩, hw'⟩; obtain rfl := hw'.symm) | (go_at_call 123; refine (refuse_walk _ _ _ _ _ _).mono ?_; rintro e w2 ⟨v, rfl, hv, hb⟩))
      all_goals
        have HF : Hid (RwPost 3 rb s i g w (.returned (.tuple #[.pointer none, v])) w2) := ⟨Below.thr (Below.thr HB1.out (below_d _)) hb, Or.inr ⟨fun q => H1.out q.2, v, 3, rfl, by omega, hv, (if_pos HL.out).symm⟩⟩
        clear hv hb
        go_wp2_with fail
        exact bodyPost_ret (by simp [results, Tryz.results299] <;> (first | rfl | exact ⟨rfl, rfl⟩)) rfl HF.out
  · obtain ⟨b, rfl, hbc⟩ := hv
    have HF : Hid (RwPost 3 rb s i g w (.returned (.tuple #[.pointer none, .iface 212 (.pointer (some ⟨b, 0, none⟩))])) w1) := ⟨HB1.out, Or.inr ⟨fun q => hl q.1, _, _, rfl, stale_ne i g, ⟨b, rfl, hbc⟩, (if_neg hl).symm⟩⟩
    clear hbc hl
    go_wp2_with fail
    exact bodyPost_ret (by simp [results, Tryz.results299] <;> (first | rfl | exact ⟨rfl, rfl⟩)) rfl HF.out

set_option maxHeartbeats 1600000 in
theorem rowOf_walk4 (h : Ms w A rb sb s tl ws) (hb : Tb s tl) (hK : Kd w) (kl : 1 < w.heap.size) (i : Nat) (g : Int) (c : ByteArray) :
    Calls Tryz.prog 300 #[.pointer (some ⟨A, 0, none⟩), .pointer (some ⟨A, 2894, none⟩), .string c, .agg #[.int .u16 (i : Int), .int .u32 g], .int .u8 6] w (RwPost 4 rb s i g w) := by
  have bB := alloc_below (w := w) (.cells #[.int .u16 (i : Int), .int .u32 g] 32)
  have hz : (w.alloc (.cells #[.int .u16 (i : Int), .int .u32 g] 32)).heap[w.heap.size]? = some (.cells #[.int .u16 (i : Int), .int .u32 g] 32 (0, 0)) := heap_new _ _
  have HM := hideIt (h.below bB)
  have HB := hideIt bB
  have HT : Hid (Tb s tl) := hb
  have HK : Hid (Kd w) := hK
  clear h hb bB hK
  go_enter Tryz.func300, Tryz.ntmps300
  go_wp2_with fail
  go_at_call 98
  refine (resolve_walk HM.out.am i g c).mono ?_
  rintro e w1 ⟨hb1, hh⟩
  have HB1 := hideIt (Below.thr HB.out hb1)
  have HM1 := hideIt (HM.out.below hb1)
  have l0 : w.heap.size < w1.heap.size := Nat.lt_of_lt_of_le (heap_lt hz) hb1.size
  have hx := (hb1.block w.heap.size (heap_lt hz)).trans hz
  have x0 := box_cell hx 0
  have x1 := box_cell hx 1
  simp only [List.getElem?_toArray, List.getElem?_cons_zero, List.getElem?_cons_succ] at x0 x1
  clear hb1 hz hx
  rcases hh with ⟨hl, rfl⟩ | ⟨hl, v, rfl, hv⟩
  · have ht := HM1.out.am.typ hl.1
    have hr := HM1.out.am.rw hl.1
    have HL := hideIt hl
    clear hl
    by_cases h1 : (s.hd i).typ = 6
    · rw [h1] at ht
      obtain ⟨r, er, r1, _⟩ := HT.out.row i 6 HL.out.1 (by omega) (by omega) h1
      rw [er] at hr
      have HF : Hid (RwPost 4 rb s i g w (.returned (.tuple #[.pointer (some ⟨rb 4, r * nC 4, none⟩), .nilIface])) w1) := ⟨HB1.out, Or.inl ⟨HL.out, h1, r, er, r1, rfl⟩⟩
      have HA := hideIt (at_walk4 HM1.out r1)
      clear h1 er r1
      go_wp2_with (go_at_call 114; refine HA.out.mono ?_; rintro e w' ⟨rfl, hw'⟩; obtain rfl := hw'.symm)
      exact bodyPost_ret (by simp [results, Tryz.results300] <;> (first | rfl | exact ⟨rfl, rfl⟩)) rfl HF.out
    · have k1 : ((s.hd i).typ != 6) = true := by rw [bne_iff_ne]; exact h1
      have HK1 : Hid (Kd w1.drew) := (show Kd w1 from HK.out.below HB1.out kl)
      have H1 : Hid (¬ (s.hd i).typ = 6) := h1
      clear h1
      go_wp2_with fail
      go_region_with (first | (go_at_call 133; refine (TypeName_walk HK1.out (t := 6) (by omega)).mono ?_; rintro e w' ⟨⟨nm, nms, rfl⟩, hw'⟩; obtain rfl := hw'.symm) | (go_at_call 123; refine (refuse_walk _ _ _ _ _ _).mono ?_; rintro e w2 ⟨v, rfl, hv, hb⟩))
      all_goals
        have HF : Hid (RwPost 4 rb s i g w (.returned (.tuple #[.pointer none, v])) w2) := ⟨Below.thr (Below.thr HB1.out (below_d _)) hb, Or.inr ⟨fun q => H1.out q.2, v, 3, rfl, by omega, hv, (if_pos HL.out).symm⟩⟩
        clear hv hb
        go_wp2_with fail
        exact bodyPost_ret (by simp [results, Tryz.results300] <;> (first | rfl | exact ⟨rfl, rfl⟩)) rfl HF.out
  · obtain ⟨b, rfl, hbc⟩ := hv
    have HF : Hid (RwPost 4 rb s i g w (.returned (.tuple #[.pointer none, .iface 212 (.pointer (some ⟨b, 0, none⟩))])) w1) := ⟨HB1.out, Or.inr ⟨fun q => hl q.1, _, _, rfl, stale_ne i g, ⟨b, rfl, hbc⟩, (if_neg hl).symm⟩⟩
    clear hbc hl
    go_wp2_with fail
    exact bodyPost_ret (by simp [results, Tryz.results300] <;> (first | rfl | exact ⟨rfl, rfl⟩)) rfl HF.out

set_option maxHeartbeats 1600000 in
theorem rowOf_walk5 (h : Ms w A rb sb s tl ws) (hb : Tb s tl) (hK : Kd w) (kl : 1 < w.heap.size) (i : Nat) (g : Int) (c : ByteArray) :
    Calls Tryz.prog 301 #[.pointer (some ⟨A, 0, none⟩), .pointer (some ⟨A, 2896, none⟩), .string c, .agg #[.int .u16 (i : Int), .int .u32 g], .int .u8 7] w (RwPost 5 rb s i g w) := by
  have bB := alloc_below (w := w) (.cells #[.int .u16 (i : Int), .int .u32 g] 32)
  have hz : (w.alloc (.cells #[.int .u16 (i : Int), .int .u32 g] 32)).heap[w.heap.size]? = some (.cells #[.int .u16 (i : Int), .int .u32 g] 32 (0, 0)) := heap_new _ _
  have HM := hideIt (h.below bB)
  have HB := hideIt bB
  have HT : Hid (Tb s tl) := hb
  have HK : Hid (Kd w) := hK
  clear h hb bB hK
  go_enter Tryz.func301, Tryz.ntmps301
  go_wp2_with fail
  go_at_call 98
  refine (resolve_walk HM.out.am i g c).mono ?_
  rintro e w1 ⟨hb1, hh⟩
  have HB1 := hideIt (Below.thr HB.out hb1)
  have HM1 := hideIt (HM.out.below hb1)
  have l0 : w.heap.size < w1.heap.size := Nat.lt_of_lt_of_le (heap_lt hz) hb1.size
  have hx := (hb1.block w.heap.size (heap_lt hz)).trans hz
  have x0 := box_cell hx 0
  have x1 := box_cell hx 1
  simp only [List.getElem?_toArray, List.getElem?_cons_zero, List.getElem?_cons_succ] at x0 x1
  clear hb1 hz hx
  rcases hh with ⟨hl, rfl⟩ | ⟨hl, v, rfl, hv⟩
  · have ht := HM1.out.am.typ hl.1
    have hr := HM1.out.am.rw hl.1
    have HL := hideIt hl
    clear hl
    by_cases h1 : (s.hd i).typ = 7
    · rw [h1] at ht
      obtain ⟨r, er, r1, _⟩ := HT.out.row i 7 HL.out.1 (by omega) (by omega) h1
      rw [er] at hr
      have HF : Hid (RwPost 5 rb s i g w (.returned (.tuple #[.pointer (some ⟨rb 5, r * nC 5, none⟩), .nilIface])) w1) := ⟨HB1.out, Or.inl ⟨HL.out, h1, r, er, r1, rfl⟩⟩
      have HA := hideIt (at_walk5 HM1.out r1)
      clear h1 er r1
      go_wp2_with (go_at_call 115; refine HA.out.mono ?_; rintro e w' ⟨rfl, hw'⟩; obtain rfl := hw'.symm)
      exact bodyPost_ret (by simp [results, Tryz.results301] <;> (first | rfl | exact ⟨rfl, rfl⟩)) rfl HF.out
    · have k1 : ((s.hd i).typ != 7) = true := by rw [bne_iff_ne]; exact h1
      have HK1 : Hid (Kd w1.drew) := (show Kd w1 from HK.out.below HB1.out kl)
      have H1 : Hid (¬ (s.hd i).typ = 7) := h1
      clear h1
      go_wp2_with fail
      go_region_with (first | (go_at_call 133; refine (TypeName_walk HK1.out (t := 7) (by omega)).mono ?_; rintro e w' ⟨⟨nm, nms, rfl⟩, hw'⟩; obtain rfl := hw'.symm) | (go_at_call 123; refine (refuse_walk _ _ _ _ _ _).mono ?_; rintro e w2 ⟨v, rfl, hv, hb⟩))
      all_goals
        have HF : Hid (RwPost 5 rb s i g w (.returned (.tuple #[.pointer none, v])) w2) := ⟨Below.thr (Below.thr HB1.out (below_d _)) hb, Or.inr ⟨fun q => H1.out q.2, v, 3, rfl, by omega, hv, (if_pos HL.out).symm⟩⟩
        clear hv hb
        go_wp2_with fail
        exact bodyPost_ret (by simp [results, Tryz.results301] <;> (first | rfl | exact ⟨rfl, rfl⟩)) rfl HF.out
  · obtain ⟨b, rfl, hbc⟩ := hv
    have HF : Hid (RwPost 5 rb s i g w (.returned (.tuple #[.pointer none, .iface 212 (.pointer (some ⟨b, 0, none⟩))])) w1) := ⟨HB1.out, Or.inr ⟨fun q => hl q.1, _, _, rfl, stale_ne i g, ⟨b, rfl, hbc⟩, (if_neg hl).symm⟩⟩
    clear hbc hl
    go_wp2_with fail
    exact bodyPost_ret (by simp [results, Tryz.results301] <;> (first | rfl | exact ⟨rfl, rfl⟩)) rfl HF.out

/-- The payload of a live object, as the untyped paths see it. -/
def ptT : Nat → Nat
  | 0 => 236
  | 1 => 238
  | 2 => 240
  | 3 => 242
  | 4 => 244
  | _ => 246

set_option maxHeartbeats 1600000 in
theorem payloadOf_walk0 (h : Ms w A rb sb s tl ws) {i r : Nat} (hi : i < 320) (h1 : (s.hd i).typ = 2) (er : (s.hd i).row = (r : Int)) (r1 : r < nR 0) :
    Calls Tryz.prog 119 #[.pointer (some ⟨A, 0, none⟩), .pointer (some ⟨A, i * 8, none⟩)] w fun e w' => e = .returned (.iface 236 (.pointer (some ⟨rb 0, r * nC 0, none⟩))) ∧ Below w.heap.size w w' := by
  have ht := h.am.typ hi
  have hr := h.am.rw hi
  rw [h1] at ht
  rw [er] at hr
  have HA := hideIt (fun w' (k : Below w.heap.size w w') => at_walk0 (h.below k) r1)
  clear h h1 er
  go_enter Tryz.func119, Tryz.ntmps119
  go_wp2_with fail
  go_region_with (go_at_call 110; refine (HA.out _ (by first | exact below_d _ | exact Below.refl _ _)).mono ?_; rintro e w' ⟨rfl, hw'⟩; obtain rfl := hw'.symm)
  all_goals
    go_wp2_with fail
    exact bodyPost_ret (by simp [results, Tryz.results119] <;> (first | rfl | exact ⟨rfl, rfl⟩)) rfl ⟨rfl, by first | exact below_d _ | exact Below.refl _ _⟩

set_option maxHeartbeats 1600000 in
theorem payloadOf_walk1 (h : Ms w A rb sb s tl ws) {i r : Nat} (hi : i < 320) (h1 : (s.hd i).typ = 3) (er : (s.hd i).row = (r : Int)) (r1 : r < nR 1) :
    Calls Tryz.prog 119 #[.pointer (some ⟨A, 0, none⟩), .pointer (some ⟨A, i * 8, none⟩)] w fun e w' => e = .returned (.iface 238 (.pointer (some ⟨rb 1, r * nC 1, none⟩))) ∧ Below w.heap.size w w' := by
  have ht := h.am.typ hi
  have hr := h.am.rw hi
  rw [h1] at ht
  rw [er] at hr
  have HA := hideIt (fun w' (k : Below w.heap.size w w') => at_walk1 (h.below k) r1)
  clear h h1 er
  go_enter Tryz.func119, Tryz.ntmps119
  go_wp2_with fail
  go_region_with (go_at_call 111; refine (HA.out _ (by first | exact below_d _ | exact Below.refl _ _)).mono ?_; rintro e w' ⟨rfl, hw'⟩; obtain rfl := hw'.symm)
  all_goals
    go_wp2_with fail
    exact bodyPost_ret (by simp [results, Tryz.results119] <;> (first | rfl | exact ⟨rfl, rfl⟩)) rfl ⟨rfl, by first | exact below_d _ | exact Below.refl _ _⟩

set_option maxHeartbeats 1600000 in
theorem payloadOf_walk2 (h : Ms w A rb sb s tl ws) {i r : Nat} (hi : i < 320) (h1 : (s.hd i).typ = 4) (er : (s.hd i).row = (r : Int)) (r1 : r < nR 2) :
    Calls Tryz.prog 119 #[.pointer (some ⟨A, 0, none⟩), .pointer (some ⟨A, i * 8, none⟩)] w fun e w' => e = .returned (.iface 240 (.pointer (some ⟨rb 2, r * nC 2, none⟩))) ∧ Below w.heap.size w w' := by
  have ht := h.am.typ hi
  have hr := h.am.rw hi
  rw [h1] at ht
  rw [er] at hr
  have HA := hideIt (fun w' (k : Below w.heap.size w w') => at_walk2 (h.below k) r1)
  clear h h1 er
  go_enter Tryz.func119, Tryz.ntmps119
  go_wp2_with fail
  go_region_with (go_at_call 112; refine (HA.out _ (by first | exact below_d _ | exact Below.refl _ _)).mono ?_; rintro e w' ⟨rfl, hw'⟩; obtain rfl := hw'.symm)
  all_goals
    go_wp2_with fail
    exact bodyPost_ret (by simp [results, Tryz.results119] <;> (first | rfl | exact ⟨rfl, rfl⟩)) rfl ⟨rfl, by first | exact below_d _ | exact Below.refl _ _⟩

set_option maxHeartbeats 1600000 in
theorem payloadOf_walk3 (h : Ms w A rb sb s tl ws) {i r : Nat} (hi : i < 320) (h1 : (s.hd i).typ = 5) (er : (s.hd i).row = (r : Int)) (r1 : r < nR 3) :
    Calls Tryz.prog 119 #[.pointer (some ⟨A, 0, none⟩), .pointer (some ⟨A, i * 8, none⟩)] w fun e w' => e = .returned (.iface 242 (.pointer (some ⟨rb 3, r * nC 3, none⟩))) ∧ Below w.heap.size w w' := by
  have ht := h.am.typ hi
  have hr := h.am.rw hi
  rw [h1] at ht
  rw [er] at hr
  have HA := hideIt (fun w' (k : Below w.heap.size w w') => at_walk3 (h.below k) r1)
  clear h h1 er
  go_enter Tryz.func119, Tryz.ntmps119
  go_wp2_with fail
  go_region_with (go_at_call 113; refine (HA.out _ (by first | exact below_d _ | exact Below.refl _ _)).mono ?_; rintro e w' ⟨rfl, hw'⟩; obtain rfl := hw'.symm)
  all_goals
    go_wp2_with fail
    exact bodyPost_ret (by simp [results, Tryz.results119] <;> (first | rfl | exact ⟨rfl, rfl⟩)) rfl ⟨rfl, by first | exact below_d _ | exact Below.refl _ _⟩

set_option maxHeartbeats 1600000 in
theorem payloadOf_walk4 (h : Ms w A rb sb s tl ws) {i r : Nat} (hi : i < 320) (h1 : (s.hd i).typ = 6) (er : (s.hd i).row = (r : Int)) (r1 : r < nR 4) :
    Calls Tryz.prog 119 #[.pointer (some ⟨A, 0, none⟩), .pointer (some ⟨A, i * 8, none⟩)] w fun e w' => e = .returned (.iface 244 (.pointer (some ⟨rb 4, r * nC 4, none⟩))) ∧ Below w.heap.size w w' := by
  have ht := h.am.typ hi
  have hr := h.am.rw hi
  rw [h1] at ht
  rw [er] at hr
  have HA := hideIt (fun w' (k : Below w.heap.size w w') => at_walk4 (h.below k) r1)
  clear h h1 er
  go_enter Tryz.func119, Tryz.ntmps119
  go_wp2_with fail
  go_region_with (go_at_call 114; refine (HA.out _ (by first | exact below_d _ | exact Below.refl _ _)).mono ?_; rintro e w' ⟨rfl, hw'⟩; obtain rfl := hw'.symm)
  all_goals
    go_wp2_with fail
    exact bodyPost_ret (by simp [results, Tryz.results119] <;> (first | rfl | exact ⟨rfl, rfl⟩)) rfl ⟨rfl, by first | exact below_d _ | exact Below.refl _ _⟩

set_option maxHeartbeats 1600000 in
theorem payloadOf_walk5 (h : Ms w A rb sb s tl ws) {i r : Nat} (hi : i < 320) (h1 : (s.hd i).typ = 7) (er : (s.hd i).row = (r : Int)) (r1 : r < nR 5) :
    Calls Tryz.prog 119 #[.pointer (some ⟨A, 0, none⟩), .pointer (some ⟨A, i * 8, none⟩)] w fun e w' => e = .returned (.iface 246 (.pointer (some ⟨rb 5, r * nC 5, none⟩))) ∧ Below w.heap.size w w' := by
  have ht := h.am.typ hi
  have hr := h.am.rw hi
  rw [h1] at ht
  rw [er] at hr
  have HA := hideIt (fun w' (k : Below w.heap.size w w') => at_walk5 (h.below k) r1)
  clear h h1 er
  go_enter Tryz.func119, Tryz.ntmps119
  go_wp2_with fail
  go_region_with (go_at_call 115; refine (HA.out _ (by first | exact below_d _ | exact Below.refl _ _)).mono ?_; rintro e w' ⟨rfl, hw'⟩; obtain rfl := hw'.symm)
  all_goals
    go_wp2_with fail
    exact bodyPost_ret (by simp [results, Tryz.results119] <;> (first | rfl | exact ⟨rfl, rfl⟩)) rfl ⟨rfl, by first | exact below_d _ | exact Below.refl _ _⟩

theorem payloadOf_walk (h : Ms w A rb sb s tl ws) {i r t : Nat} (hi : i < 320) (ht : t < 6) (h1 : (s.hd i).typ = ((t + 2 : Nat) : Int)) (er : (s.hd i).row = (r : Int)) (r1 : r < nR t) :
    Calls Tryz.prog 119 #[.pointer (some ⟨A, 0, none⟩), .pointer (some ⟨A, i * 8, none⟩)] w fun e w' => e = .returned (.iface (ptT t) (.pointer (some ⟨rb t, r * nC t, none⟩))) ∧ Below w.heap.size w w' := by
  match t, ht with
  | 0, _ => exact payloadOf_walk0 h hi h1 er r1
  | 1, _ => exact payloadOf_walk1 h hi h1 er r1
  | 2, _ => exact payloadOf_walk2 h hi h1 er r1
  | 3, _ => exact payloadOf_walk3 h hi h1 er r1
  | 4, _ => exact payloadOf_walk4 h hi h1 er r1
  | 5, _ => exact payloadOf_walk5 h hi h1 er r1
end
end Go.Proofs.Qxb6500847aGreatDoor.Os
