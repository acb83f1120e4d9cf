/-
  Valid.
-/
import Derived.Test.Qxb6500847aGreatDoorOsPf
namespace Go.Proofs.Qxb6500847aGreatDoor.Os
open Go.RowKit FloorA
set_option maxRecDepth 100000
section
variable {w : World}
theorem validRef_dec (i g : Int) (w : World) :
    Calls Tryz.prog 296 #[.agg #[.int .u16 i, .int .u32 g]] w fun e w' => e = .returned (.bool (decide (i < 320))) ∧ Below w.heap.size w w' := by
  go_enter Tryz.func296, Tryz.ntmps296
  go_wp2_with fail
  go_ret
  exact ⟨rfl, alloc_below _⟩
def VlPost (t : Nat) (W : Nat → Int) (w : World) (e : Ending) (w' : World) : Prop := (∃ q, e = .returned (.bool q) ∧ (q = true ↔ Wc t W)) ∧ Below w.heap.size w w'
def CvPost (W : Nat → Int) (w : World) (e : Ending) (w' : World) : Prop := (∃ q, e = .returned (.bool q) ∧ (q = true ↔ ∀ f, f < 7 → cOk f (W f))) ∧ Below w.heap.size w w'

set_option maxHeartbeats 4000000 in
theorem valid9_walk {b o : Nat} {W : Nat → Int} (hr : w.rangeAt b o (cellL W 0)) :
    Calls Tryz.prog 250 #[.pointer (some ⟨b, o, none⟩)] w (CvPost W w) := by
  have c0 : w.cell? ⟨b, o, none⟩ = some (.int .u16 (W 0 % 65536)) := hr 0 _ rfl
  have c1 : w.cell? ⟨b, o + 1, none⟩ = some (.int .u32 (W 0 / 65536)) := hr 1 _ rfl
  have c2 : w.cell? ⟨b, o + 2, none⟩ = some (.int .u8 (W 1)) := hr 2 _ rfl
  have c5 : w.cell? ⟨b, o + 5, none⟩ = some (.int .u16 (W 4)) := hr 5 _ rfl
  have c6 : w.cell? ⟨b, o + 6, none⟩ = some (.int .u16 (W 5)) := hr 6 _ rfl
  have lt : b < w.heap.size := cell_lt c0
  clear hr
  generalize hx0 : W 0 % 65536 = x0 at *
  generalize W 0 / 65536 = y0 at *
  generalize hx1 : W 1 = x1 at *
  generalize hx4 : W 4 = x4 at *
  generalize hx5 : W 5 = x5 at *
  have HV : Hid ((x0 < 320 ∧ x1 ≤ 15 ∧ x4 ≤ 4096 ∧ x5 ≤ 4096) ↔ ∀ f, f < 7 → cOk f (W f)) := ⟨fun a f hf => ⟨fun e => by subst e; omega, fun e => by subst e; omega, fun e => by subst e; omega, fun e => by subst e; omega⟩, fun h => ⟨by have := (h 0 (by omega)).1 rfl; omega, by have := (h 1 (by omega)).2.1 rfl; omega, by have := (h 4 (by omega)).2.2.1 rfl; omega, by have := (h 5 (by omega)).2.2.2 rfl; omega⟩⟩
  clear hx0 hx1 hx4 hx5
  rcases Bool.eq_false_or_eq_true (decide (x0 < 320)) with g0 | g0
  rotate_left
  · go_enter Tryz.func250, Tryz.ntmps250
    go_wp2
    go_ret
    exact ⟨⟨_, rfl, ⟨fun h => (nomatch h), fun hw => by have q := HV.out.2 hw; have g := of_decide_eq_false g0; omega⟩⟩, by first | exact Below.refl _ _ | exact alloc_below _ | exact Below.thr (alloc_below _) (alloc_below _) | exact Below.thr (Below.thr (alloc_below _) (alloc_below _)) (alloc_below _) | exact Below.thr (Below.thr (Below.thr (alloc_below _) (alloc_below _)) (alloc_below _)) (alloc_below _)⟩
  rcases Bool.eq_false_or_eq_true (decide (x1 ≤ 15)) with g1 | g1
  rotate_left
  · go_enter Tryz.func250, Tryz.ntmps250
    go_wp2
    go_ret
    exact ⟨⟨_, rfl, ⟨fun h => (nomatch h), fun hw => by have q := HV.out.2 hw; have g := of_decide_eq_false g1; omega⟩⟩, by first | exact Below.refl _ _ | exact alloc_below _ | exact Below.thr (alloc_below _) (alloc_below _) | exact Below.thr (Below.thr (alloc_below _) (alloc_below _)) (alloc_below _) | exact Below.thr (Below.thr (Below.thr (alloc_below _) (alloc_below _)) (alloc_below _)) (alloc_below _)⟩
  rcases Bool.eq_false_or_eq_true (decide (x4 ≤ 4096)) with g4 | g4
  rotate_left
  · go_enter Tryz.func250, Tryz.ntmps250
    go_wp2
    go_ret
    exact ⟨⟨_, rfl, ⟨fun h => (nomatch h), fun hw => by have q := HV.out.2 hw; have g := of_decide_eq_false g4; omega⟩⟩, by first | exact Below.refl _ _ | exact alloc_below _ | exact Below.thr (alloc_below _) (alloc_below _) | exact Below.thr (Below.thr (alloc_below _) (alloc_below _)) (alloc_below _) | exact Below.thr (Below.thr (Below.thr (alloc_below _) (alloc_below _)) (alloc_below _)) (alloc_below _)⟩
  go_enter Tryz.func250, Tryz.ntmps250
  go_wp2
  go_ret
  exact ⟨⟨_, rfl, ⟨fun h => HV.out.1 ⟨of_decide_eq_true g0, of_decide_eq_true g1, of_decide_eq_true g4, of_decide_eq_true h⟩, fun hw => decide_eq_true (HV.out.2 hw).2.2.2⟩⟩, by first | exact Below.refl _ _ | exact alloc_below _ | exact Below.thr (alloc_below _) (alloc_below _) | exact Below.thr (Below.thr (alloc_below _) (alloc_below _)) (alloc_below _) | exact Below.thr (Below.thr (Below.thr (alloc_below _) (alloc_below _)) (alloc_below _)) (alloc_below _)⟩

set_option maxHeartbeats 4000000 in
theorem valid1_walk {b o : Nat} {W : Nat → Int} (hr : w.rangeAt b o (rowL 1 W)) :
    Calls Tryz.prog 262 #[.pointer (some ⟨b, o, none⟩)] w (VlPost 1 W w) := by
  have c0 : w.cell? ⟨b, o, none⟩ = some (.int .u8 (W 0)) := hr 0 _ rfl
  have c1 : w.cell? ⟨b, o + 1, none⟩ = some (.int .u8 (W 1)) := hr 1 _ rfl
  have c2 : w.cell? ⟨b, o + 2, none⟩ = some (.int .u16 (W 2 % 65536)) := hr 2 _ rfl
  have c3 : w.cell? ⟨b, o + 3, none⟩ = some (.int .u32 (W 2 / 65536)) := hr 3 _ rfl
  have c6 : w.cell? ⟨b, o + 6, none⟩ = some (.int .u16 (W 5 % 65536)) := hr 6 _ rfl
  have c7 : w.cell? ⟨b, o + 7, none⟩ = some (.int .u32 (W 5 / 65536)) := hr 7 _ rfl
  have c9 : w.cell? ⟨b, o + 9, none⟩ = some (.int .u16 (W 7 % 65536)) := hr 9 _ rfl
  have c10 : w.cell? ⟨b, o + 10, none⟩ = some (.int .u32 (W 7 / 65536)) := hr 10 _ rfl
  have c11 : w.cell? ⟨b, o + 11, none⟩ = some (.int .u16 (W 8 % 65536)) := hr 11 _ rfl
  have c12 : w.cell? ⟨b, o + 12, none⟩ = some (.int .u32 (W 8 / 65536)) := hr 12 _ rfl
  have c4 : w.cell? ⟨b, o + 4, none⟩ = some (.int .u16 (W 3)) := hr 4 _ rfl
  have c5 : w.cell? ⟨b, o + 5, none⟩ = some (.int .u16 (W 4)) := hr 5 _ rfl
  have c14 : w.cell? ⟨b, o + 14, none⟩ = some (.int .u8 (W 10)) := hr 14 _ rfl
  have c19 : w.cell? ⟨b, o + 19, none⟩ = some (.int .u8 (W 15)) := hr 19 _ rfl
  have lt : b < w.heap.size := cell_lt c0
  have HV : Hid ((W 0 ≤ 6 ∧ W 1 < 8 ∧ W 2 % 65536 < 320 ∧ W 5 % 65536 < 320 ∧ W 7 % 65536 < 320 ∧ W 8 % 65536 < 320 ∧ W 3 ≤ 256 ∧ W 4 ≤ 256 ∧ W 10 ≤ 4 ∧ W 15 ≤ 2) ↔ Wc 1 W) := ⟨fun q f hf => ⟨fun e => by subst e; omega, fun e => by subst e; omega, fun e => by rcases e with e | e | e | e <;> subst e <;> omega, fun e => by rcases e with e | e <;> subst e <;> omega, fun e => by subst e; omega, fun e => by subst e; omega⟩, fun h => ⟨(h 0 (by decide)).1 rfl, by have := (h 1 (by decide)).2.1 rfl; omega, (h 2 (by decide)).2.2.1 (by omega), (h 5 (by decide)).2.2.1 (by omega), (h 7 (by decide)).2.2.1 (by omega), (h 8 (by decide)).2.2.1 (by omega), (h 3 (by decide)).2.2.2.1 (by omega), (h 4 (by decide)).2.2.2.1 (by omega), (h 10 (by decide)).2.2.2.2.1 rfl, (h 15 (by decide)).2.2.2.2.2 rfl⟩⟩
  clear hr
  generalize W 0 = x0 at *
  generalize W 1 = x1 at *
  generalize W 2 % 65536 = x2 at *
  generalize W 2 / 65536 = y2 at *
  generalize W 5 % 65536 = x5 at *
  generalize W 5 / 65536 = y5 at *
  generalize W 7 % 65536 = x7 at *
  generalize W 7 / 65536 = y7 at *
  generalize W 8 % 65536 = x8 at *
  generalize W 8 / 65536 = y8 at *
  generalize W 3 = x3 at *
  generalize W 4 = x4 at *
  generalize W 10 = x10 at *
  generalize W 15 = x15 at *
  have KP : Hid (∀ w', Below w.heap.size w w' → w'.cell? ⟨b, o, none⟩ = some (.int .u8 x0) ∧ w'.cell? ⟨b, o + 1, none⟩ = some (.int .u8 x1) ∧ w'.cell? ⟨b, o + 2, none⟩ = some (.int .u16 x2) ∧ w'.cell? ⟨b, o + 3, none⟩ = some (.int .u32 y2) ∧ w'.cell? ⟨b, o + 6, none⟩ = some (.int .u16 x5) ∧ w'.cell? ⟨b, o + 7, none⟩ = some (.int .u32 y5) ∧ w'.cell? ⟨b, o + 9, none⟩ = some (.int .u16 x7) ∧ w'.cell? ⟨b, o + 10, none⟩ = some (.int .u32 y7) ∧ w'.cell? ⟨b, o + 11, none⟩ = some (.int .u16 x8) ∧ w'.cell? ⟨b, o + 12, none⟩ = some (.int .u32 y8) ∧ w'.cell? ⟨b, o + 4, none⟩ = some (.int .u16 x3) ∧ w'.cell? ⟨b, o + 5, none⟩ = some (.int .u16 x4) ∧ w'.cell? ⟨b, o + 14, none⟩ = some (.int .u8 x10) ∧ w'.cell? ⟨b, o + 19, none⟩ = some (.int .u8 x15)) := fun w' h => ⟨(h.cell (p := ⟨b, o, none⟩) lt).trans c0, (h.cell (p := ⟨b, o + 1, none⟩) lt).trans c1, (h.cell (p := ⟨b, o + 2, none⟩) lt).trans c2, (h.cell (p := ⟨b, o + 3, none⟩) lt).trans c3, (h.cell (p := ⟨b, o + 6, none⟩) lt).trans c6, (h.cell (p := ⟨b, o + 7, none⟩) lt).trans c7, (h.cell (p := ⟨b, o + 9, none⟩) lt).trans c9, (h.cell (p := ⟨b, o + 10, none⟩) lt).trans c10, (h.cell (p := ⟨b, o + 11, none⟩) lt).trans c11, (h.cell (p := ⟨b, o + 12, none⟩) lt).trans c12, (h.cell (p := ⟨b, o + 4, none⟩) lt).trans c4, (h.cell (p := ⟨b, o + 5, none⟩) lt).trans c5, (h.cell (p := ⟨b, o + 14, none⟩) lt).trans c14, (h.cell (p := ⟨b, o + 19, none⟩) lt).trans c19⟩
  have HBc : Hid (Below w.heap.size w w) := Below.refl _ _
  rcases Bool.eq_false_or_eq_true (decide (x0 ≤ 6)) with g0 | g0
  rotate_left
  · go_enter Tryz.func262, Tryz.ntmps262
    go_wp2_with (go_at_call 296; refine (validRef_dec _ _ _).mono ?_; rintro e w1 ⟨rfl, hb1⟩; have HBc := hideIt (Below.thr HBc.out hb1); obtain ⟨c0, c1, c2, c3, c6, c7, c9, c10, c11, c12, c4, c5, c14, c19⟩ := KP.out _ HBc.out; clear hb1)
    go_ret
    exact ⟨⟨_, rfl, ⟨fun h => (nomatch h), fun hw => by have q := HV.out.2 hw; have g := of_decide_eq_false g0; omega⟩⟩, HBc.out⟩
  rcases Bool.eq_false_or_eq_true (decide (x1 < 8)) with g1 | g1
  rotate_left
  · go_enter Tryz.func262, Tryz.ntmps262
    go_wp2_with (go_at_call 296; refine (validRef_dec _ _ _).mono ?_; rintro e w1 ⟨rfl, hb1⟩; have HBc := hideIt (Below.thr HBc.out hb1); obtain ⟨c0, c1, c2, c3, c6, c7, c9, c10, c11, c12, c4, c5, c14, c19⟩ := KP.out _ HBc.out; clear hb1)
    go_ret
    exact ⟨⟨_, rfl, ⟨fun h => (nomatch h), fun hw => by have q := HV.out.2 hw; have g := of_decide_eq_false g1; omega⟩⟩, HBc.out⟩
  rcases Bool.eq_false_or_eq_true (decide (x2 < 320)) with g2 | g2
  rotate_left
  · go_enter Tryz.func262, Tryz.ntmps262
    go_wp2_with (go_at_call 296; refine (validRef_dec _ _ _).mono ?_; rintro e w1 ⟨rfl, hb1⟩; have HBc := hideIt (Below.thr HBc.out hb1); obtain ⟨c0, c1, c2, c3, c6, c7, c9, c10, c11, c12, c4, c5, c14, c19⟩ := KP.out _ HBc.out; clear hb1)
    go_ret
    exact ⟨⟨_, rfl, ⟨fun h => (nomatch h), fun hw => by have q := HV.out.2 hw; have g := of_decide_eq_false g2; omega⟩⟩, HBc.out⟩
  rcases Bool.eq_false_or_eq_true (decide (x5 < 320)) with g5 | g5
  rotate_left
  · go_enter Tryz.func262, Tryz.ntmps262
    go_wp2_with (go_at_call 296; refine (validRef_dec _ _ _).mono ?_; rintro e w1 ⟨rfl, hb1⟩; have HBc := hideIt (Below.thr HBc.out hb1); obtain ⟨c0, c1, c2, c3, c6, c7, c9, c10, c11, c12, c4, c5, c14, c19⟩ := KP.out _ HBc.out; clear hb1)
    go_ret
    exact ⟨⟨_, rfl, ⟨fun h => (nomatch h), fun hw => by have q := HV.out.2 hw; have g := of_decide_eq_false g5; omega⟩⟩, HBc.out⟩
  rcases Bool.eq_false_or_eq_true (decide (x7 < 320)) with g7 | g7
  rotate_left
  · go_enter Tryz.func262, Tryz.ntmps262
    go_wp2_with (go_at_call 296; refine (validRef_dec _ _ _).mono ?_; rintro e w1 ⟨rfl, hb1⟩; have HBc := hideIt (Below.thr HBc.out hb1); obtain ⟨c0, c1, c2, c3, c6, c7, c9, c10, c11, c12, c4, c5, c14, c19⟩ := KP.out _ HBc.out; clear hb1)
    go_ret
    exact ⟨⟨_, rfl, ⟨fun h => (nomatch h), fun hw => by have q := HV.out.2 hw; have g := of_decide_eq_false g7; omega⟩⟩, HBc.out⟩
  rcases Bool.eq_false_or_eq_true (decide (x8 < 320)) with g8 | g8
  rotate_left
  · go_enter Tryz.func262, Tryz.ntmps262
    go_wp2_with (go_at_call 296; refine (validRef_dec _ _ _).mono ?_; rintro e w1 ⟨rfl, hb1⟩; have HBc := hideIt (Below.thr HBc.out hb1); obtain ⟨c0, c1, c2, c3, c6, c7, c9, c10, c11, c12, c4, c5, c14, c19⟩ := KP.out _ HBc.out; clear hb1)
    go_ret
    exact ⟨⟨_, rfl, ⟨fun h => (nomatch h), fun hw => by have q := HV.out.2 hw; have g := of_decide_eq_false g8; omega⟩⟩, HBc.out⟩
  rcases Bool.eq_false_or_eq_true (decide (x3 ≤ 256)) with g3 | g3
  rotate_left
  · go_enter Tryz.func262, Tryz.ntmps262
    go_wp2_with (go_at_call 296; refine (validRef_dec _ _ _).mono ?_; rintro e w1 ⟨rfl, hb1⟩; have HBc := hideIt (Below.thr HBc.out hb1); obtain ⟨c0, c1, c2, c3, c6, c7, c9, c10, c11, c12, c4, c5, c14, c19⟩ := KP.out _ HBc.out; clear hb1)
    go_ret
    exact ⟨⟨_, rfl, ⟨fun h => (nomatch h), fun hw => by have q := HV.out.2 hw; have g := of_decide_eq_false g3; omega⟩⟩, HBc.out⟩
  rcases Bool.eq_false_or_eq_true (decide (x4 ≤ 256)) with g4 | g4
  rotate_left
  · go_enter Tryz.func262, Tryz.ntmps262
    go_wp2_with (go_at_call 296; refine (validRef_dec _ _ _).mono ?_; rintro e w1 ⟨rfl, hb1⟩; have HBc := hideIt (Below.thr HBc.out hb1); obtain ⟨c0, c1, c2, c3, c6, c7, c9, c10, c11, c12, c4, c5, c14, c19⟩ := KP.out _ HBc.out; clear hb1)
    go_ret
    exact ⟨⟨_, rfl, ⟨fun h => (nomatch h), fun hw => by have q := HV.out.2 hw; have g := of_decide_eq_false g4; omega⟩⟩, HBc.out⟩
  rcases Bool.eq_false_or_eq_true (decide (x10 ≤ 4)) with g10 | g10
  rotate_left
  · go_enter Tryz.func262, Tryz.ntmps262
    go_wp2_with (go_at_call 296; refine (validRef_dec _ _ _).mono ?_; rintro e w1 ⟨rfl, hb1⟩; have HBc := hideIt (Below.thr HBc.out hb1); obtain ⟨c0, c1, c2, c3, c6, c7, c9, c10, c11, c12, c4, c5, c14, c19⟩ := KP.out _ HBc.out; clear hb1)
    go_ret
    exact ⟨⟨_, rfl, ⟨fun h => (nomatch h), fun hw => by have q := HV.out.2 hw; have g := of_decide_eq_false g10; omega⟩⟩, HBc.out⟩
  go_enter Tryz.func262, Tryz.ntmps262
  go_wp2_with (go_at_call 296; refine (validRef_dec _ _ _).mono ?_; rintro e w1 ⟨rfl, hb1⟩; have HBc := hideIt (Below.thr HBc.out hb1); obtain ⟨c0, c1, c2, c3, c6, c7, c9, c10, c11, c12, c4, c5, c14, c19⟩ := KP.out _ HBc.out; clear hb1)
  go_ret
  exact ⟨⟨_, rfl, ⟨fun h => HV.out.1 (by have h := of_decide_eq_true h; have k0 := of_decide_eq_true g0; have k1 := of_decide_eq_true g1; have k2 := of_decide_eq_true g2; have k5 := of_decide_eq_true g5; have k7 := of_decide_eq_true g7; have k8 := of_decide_eq_true g8; have k3 := of_decide_eq_true g3; have k4 := of_decide_eq_true g4; have k10 := of_decide_eq_true g10; omega), fun hw => decide_eq_true (by have q := HV.out.2 hw; omega)⟩⟩, HBc.out⟩

set_option maxHeartbeats 4000000 in
theorem valid2_walk {b o : Nat} {W : Nat → Int} (hr : w.rangeAt b o (rowL 2 W)) :
    Calls Tryz.prog 265 #[.pointer (some ⟨b, o, none⟩)] w (VlPost 2 W w) := by
  have c0 : w.cell? ⟨b, o, none⟩ = some (.int .u8 (W 0)) := hr 0 _ rfl
  have c1 : w.cell? ⟨b, o + 1, none⟩ = some (.int .u16 (W 1)) := hr 1 _ rfl
  have c2 : w.cell? ⟨b, o + 2, none⟩ = some (.int .u16 (W 2)) := hr 2 _ rfl
  have lt : b < w.heap.size := cell_lt c0
  have HV : Hid ((W 0 ≤ 2 ∧ W 1 ≤ 256 ∧ W 2 ≤ 256) ↔ Wc 2 W) := ⟨fun q f hf => ⟨fun e => by subst e; omega, fun e => by rcases e with e | e <;> subst e <;> omega⟩, fun h => ⟨(h 0 (by decide)).1 rfl, (h 1 (by decide)).2 (by omega), (h 2 (by decide)).2 (by omega)⟩⟩
  clear hr
  generalize W 0 = x0 at *
  generalize W 1 = x1 at *
  generalize W 2 = x2 at *
  rcases Bool.eq_false_or_eq_true (decide (x0 ≤ 2)) with g0 | g0
  rotate_left
  · go_enter Tryz.func265, Tryz.ntmps265
    go_wp2
    go_ret
    exact ⟨⟨_, rfl, ⟨fun h => (nomatch h), fun hw => by have q := HV.out.2 hw; have g := of_decide_eq_false g0; omega⟩⟩, by first | exact Below.refl _ _ | exact alloc_below _ | exact Below.thr (alloc_below _) (alloc_below _) | exact Below.thr (Below.thr (alloc_below _) (alloc_below _)) (alloc_below _) | exact Below.thr (Below.thr (Below.thr (alloc_below _) (alloc_below _)) (alloc_below _)) (alloc_below _)⟩
  rcases Bool.eq_false_or_eq_true (decide (x1 ≤ 256)) with g1 | g1
  rotate_left
  · go_enter Tryz.func265, Tryz.ntmps265
    go_wp2
    go_ret
    exact ⟨⟨_, rfl, ⟨fun h => (nomatch h), fun hw => by have q := HV.out.2 hw; have g := of_decide_eq_false g1; omega⟩⟩, by first | exact Below.refl _ _ | exact alloc_below _ | exact Below.thr (alloc_below _) (alloc_below _) | exact Below.thr (Below.thr (alloc_below _) (alloc_below _)) (alloc_below _) | exact Below.thr (Below.thr (Below.thr (alloc_below _) (alloc_below _)) (alloc_below _)) (alloc_below _)⟩
  go_enter Tryz.func265, Tryz.ntmps265
  go_wp2
  go_ret
  exact ⟨⟨_, rfl, ⟨fun h => HV.out.1 (by have h := of_decide_eq_true h; have k0 := of_decide_eq_true g0; have k1 := of_decide_eq_true g1; omega), fun hw => decide_eq_true (by have q := HV.out.2 hw; omega)⟩⟩, by first | exact Below.refl _ _ | exact alloc_below _ | exact Below.thr (alloc_below _) (alloc_below _) | exact Below.thr (Below.thr (alloc_below _) (alloc_below _)) (alloc_below _) | exact Below.thr (Below.thr (Below.thr (alloc_below _) (alloc_below _)) (alloc_below _)) (alloc_below _)⟩

set_option maxHeartbeats 4000000 in
theorem valid3_walk {b o : Nat} {W : Nat → Int} (hr : w.rangeAt b o (rowL 3 W)) :
    Calls Tryz.prog 268 #[.pointer (some ⟨b, o, none⟩)] w (VlPost 3 W w) := by
  have c1 : w.cell? ⟨b, o + 1, none⟩ = some (.int .u16 (W 1)) := hr 1 _ rfl
  have c2 : w.cell? ⟨b, o + 2, none⟩ = some (.int .u16 (W 2)) := hr 2 _ rfl
  have c3 : w.cell? ⟨b, o + 3, none⟩ = some (.int .u16 (W 3 % 65536)) := hr 3 _ rfl
  have c4 : w.cell? ⟨b, o + 4, none⟩ = some (.int .u32 (W 3 / 65536)) := hr 4 _ rfl
  have lt : b < w.heap.size := cell_lt c1
  have HV : Hid ((W 1 ≤ 256 ∧ W 2 ≤ 256 ∧ W 3 % 65536 < 320) ↔ Wc 3 W) := ⟨fun q f hf => ⟨fun e => by rcases e with e | e <;> subst e <;> omega, fun e => by subst e; omega⟩, fun h => ⟨(h 1 (by decide)).1 (by omega), (h 2 (by decide)).1 (by omega), (h 3 (by decide)).2 rfl⟩⟩
  clear hr
  generalize W 1 = x1 at *
  generalize W 2 = x2 at *
  generalize W 3 % 65536 = x3 at *
  generalize W 3 / 65536 = y3 at *
  rcases Bool.eq_false_or_eq_true (decide (x1 ≤ 256)) with g1 | g1
  rotate_left
  · go_enter Tryz.func268, Tryz.ntmps268
    go_wp2
    go_ret
    exact ⟨⟨_, rfl, ⟨fun h => (nomatch h), fun hw => by have q := HV.out.2 hw; have g := of_decide_eq_false g1; omega⟩⟩, by first | exact Below.refl _ _ | exact alloc_below _ | exact Below.thr (alloc_below _) (alloc_below _) | exact Below.thr (Below.thr (alloc_below _) (alloc_below _)) (alloc_below _) | exact Below.thr (Below.thr (Below.thr (alloc_below _) (alloc_below _)) (alloc_below _)) (alloc_below _)⟩
  rcases Bool.eq_false_or_eq_true (decide (x2 ≤ 256)) with g2 | g2
  rotate_left
  · go_enter Tryz.func268, Tryz.ntmps268
    go_wp2
    go_ret
    exact ⟨⟨_, rfl, ⟨fun h => (nomatch h), fun hw => by have q := HV.out.2 hw; have g := of_decide_eq_false g2; omega⟩⟩, by first | exact Below.refl _ _ | exact alloc_below _ | exact Below.thr (alloc_below _) (alloc_below _) | exact Below.thr (Below.thr (alloc_below _) (alloc_below _)) (alloc_below _) | exact Below.thr (Below.thr (Below.thr (alloc_below _) (alloc_below _)) (alloc_below _)) (alloc_below _)⟩
  go_enter Tryz.func268, Tryz.ntmps268
  go_wp2
  go_ret
  exact ⟨⟨_, rfl, ⟨fun h => HV.out.1 (by have h := of_decide_eq_true h; have k1 := of_decide_eq_true g1; have k2 := of_decide_eq_true g2; omega), fun hw => decide_eq_true (by have q := HV.out.2 hw; omega)⟩⟩, by first | exact Below.refl _ _ | exact alloc_below _ | exact Below.thr (alloc_below _) (alloc_below _) | exact Below.thr (Below.thr (alloc_below _) (alloc_below _)) (alloc_below _) | exact Below.thr (Below.thr (Below.thr (alloc_below _) (alloc_below _)) (alloc_below _)) (alloc_below _)⟩

set_option maxHeartbeats 4000000 in
theorem valid4_walk {b o : Nat} {W : Nat → Int} (hr : w.rangeAt b o (rowL 4 W)) :
    Calls Tryz.prog 271 #[.pointer (some ⟨b, o, none⟩)] w (VlPost 4 W w) := by
  have c0 : w.cell? ⟨b, o, none⟩ = some (.int .u16 (W 0 % 65536)) := hr 0 _ rfl
  have c1 : w.cell? ⟨b, o + 1, none⟩ = some (.int .u32 (W 0 / 65536)) := hr 1 _ rfl
  have lt : b < w.heap.size := cell_lt c0
  have HV : Hid ((W 0 % 65536 < 320) ↔ Wc 4 W) := ⟨fun q f hf => fun e => by subst e; omega, fun h => h 0 (by decide) rfl⟩
  clear hr
  generalize W 0 % 65536 = x0 at *
  generalize W 0 / 65536 = y0 at *
  go_enter Tryz.func271, Tryz.ntmps271
  go_wp2
  go_ret
  exact ⟨⟨_, rfl, ⟨fun h => HV.out.1 (by have h := of_decide_eq_true h; omega), fun hw => decide_eq_true (by have q := HV.out.2 hw; omega)⟩⟩, by first | exact Below.refl _ _ | exact alloc_below _ | exact Below.thr (alloc_below _) (alloc_below _) | exact Below.thr (Below.thr (alloc_below _) (alloc_below _)) (alloc_below _) | exact Below.thr (Below.thr (Below.thr (alloc_below _) (alloc_below _)) (alloc_below _)) (alloc_below _)⟩

set_option maxHeartbeats 4000000 in
theorem valid5_walk {b o : Nat} {W : Nat → Int} (hr : w.rangeAt b o (rowL 5 W)) :
    Calls Tryz.prog 274 #[.pointer (some ⟨b, o, none⟩)] w (VlPost 5 W w) := by
  have c0 : w.cell? ⟨b, o, none⟩ = some (.int .u8 (W 0)) := hr 0 _ rfl
  have c1 : w.cell? ⟨b, o + 1, none⟩ = some (.int .u16 (W 1 % 65536)) := hr 1 _ rfl
  have c2 : w.cell? ⟨b, o + 2, none⟩ = some (.int .u32 (W 1 / 65536)) := hr 2 _ rfl
  have lt : b < w.heap.size := cell_lt c0
  have HV : Hid ((W 0 < 32 ∧ W 1 % 65536 < 320) ↔ Wc 5 W) := ⟨fun q f hf => ⟨fun e => by subst e; omega, fun e => by subst e; omega⟩, fun h => ⟨by have := (h 0 (by decide)).1 rfl; omega, (h 1 (by decide)).2 rfl⟩⟩
  clear hr
  generalize W 0 = x0 at *
  generalize W 1 % 65536 = x1 at *
  generalize W 1 / 65536 = y1 at *
  rcases Bool.eq_false_or_eq_true (decide (x0 < 32)) with g0 | g0
  rotate_left
  · go_enter Tryz.func274, Tryz.ntmps274
    go_wp2
    go_ret
    exact ⟨⟨_, rfl, ⟨fun h => (nomatch h), fun hw => by have q := HV.out.2 hw; have g := of_decide_eq_false g0; omega⟩⟩, by first | exact Below.refl _ _ | exact alloc_below _ | exact Below.thr (alloc_below _) (alloc_below _) | exact Below.thr (Below.thr (alloc_below _) (alloc_below _)) (alloc_below _) | exact Below.thr (Below.thr (Below.thr (alloc_below _) (alloc_below _)) (alloc_below _)) (alloc_below _)⟩
  go_enter Tryz.func274, Tryz.ntmps274
  go_wp2
  go_ret
  exact ⟨⟨_, rfl, ⟨fun h => HV.out.1 (by have h := of_decide_eq_true h; have k0 := of_decide_eq_true g0; omega), fun hw => decide_eq_true (by have q := HV.out.2 hw; omega)⟩⟩, by first | exact Below.refl _ _ | exact alloc_below _ | exact Below.thr (alloc_below _) (alloc_below _) | exact Below.thr (Below.thr (alloc_below _) (alloc_below _)) (alloc_below _) | exact Below.thr (Below.thr (Below.thr (alloc_below _) (alloc_below _)) (alloc_below _)) (alloc_below _)⟩

theorem cells_step {W : Nat → Int} {k : Nat} (h : ∀ f, f < 7 * k → cOk (f % 7) (W f)) (g : ∀ f, f < 7 → cOk f (W (7 * k + f))) (f : Nat) (hf : f < 7 * (k + 1)) : cOk (f % 7) (W f) := by
  by_cases q : f < 7 * k
  · exact h f q
  · have := g (f - 7 * k) (by omega)
    rw [show 7 * k + (f - 7 * k) = f by omega, show f - 7 * k = f % 7 by omega] at this
    exact this
set_option maxHeartbeats 4000000 in
theorem valid0_walk {b o : Nat} {W : Nat → Int} (hr : w.rangeAt b o (rowL 0 W)) :
    Calls Tryz.prog 259 #[.pointer (some ⟨b, o, none⟩)] w (VlPost 0 W w) := by
  have lt : b < w.heap.size := cell_lt (hr 0 _ rfl)
  have HC : Hid (∀ w', Below w.heap.size w w' → ∀ k, k < 16 → Calls Tryz.prog 250 #[.pointer (some ⟨b, o + k * 8, none⟩)] w' (CvPost (fun j => W (7 * k + j)) w')) := fun w' h k hk => valid9_walk (cell_at (fun j v hv => (h.cell (p := ⟨b, o + j, none⟩) lt).trans (hr j v hv)) hk)
  clear hr
  go_enter Tryz.func259, Tryz.ntmps259
  go_wp2_with fail
  go_loopw [4] (fun v4 wr => ∃ k : Nat, k ≤ 16 ∧ v4 = .int .i64 (k : Int) ∧ Below w.heap.size w wr ∧ ∀ f, f < 7 * k → cOk (f % 7) (W f)) (fun v4 _ => 16 - (intOf v4).toNat)
  case atStart => exact ⟨0, by omega, rfl, Below.refl _ _, fun f hf => absurd hf (by omega)⟩
  case round =>
    obtain ⟨k, hk, rfl, hb, hok⟩ := hrel
    have HOK : Hid (∀ f, f < 7 * k → cOk (f % 7) (W f)) := hok
    clear hok
    have HB := hideIt hb
    clear hb
    by_cases hlt : k < 16
    · have hlt' : (k : Int) < 16 := by omega
      go_wp2_with fail
      go_at_call 250
      refine (HC.out wr HB.out k hlt).mono ?_
      rintro e w2 ⟨⟨q, rfl, hcv⟩, hb2⟩
      have HCV : Hid (q = true ↔ ∀ f, f < 7 → cOk f (W (7 * k + f))) := hcv
      clear hcv
      have HB2 := hideIt (Below.thr HB.out hb2)
      clear hb2
      cases q
      · go_wp2_with fail
        go_ret
        exact ⟨⟨_, rfl, ⟨fun h => (nomatch h), fun hw => absurd (HCV.out.2 (fun f hf => by
          have h1 : cOk ((7 * k + f) % 7) (W (7 * k + f)) := hw (7 * k + f) (show 7 * k + f < 112 by omega)
          rw [show (7 * k + f) % 7 = f by omega] at h1
          exact h1)) (by simp)⟩⟩, HB2.out⟩
      · go_wp2_with fail
        exact ⟨⟨k + 1, by omega, by go_num, HB2.out, fun f hf => cells_step HOK.out (HCV.out.1 (by first | rfl | trivial)) f hf⟩, by simp [intOf]; omega⟩
    · obtain rfl : k = 16 := by omega
      go_wp2_with fail
      go_ret
      exact ⟨⟨_, rfl, ⟨fun _ f hf => HOK.out f (show f < 7 * 16 by have : f < 112 := hf; omega), fun _ => rfl⟩⟩, HB.out⟩
/-- Valid, by the type. -/
def vlF : Nat → Nat
  | 0 => 259
  | 1 => 262
  | 2 => 265
  | 3 => 268
  | 4 => 271
  | _ => 274
end
end Go.Proofs.Qxb6500847aGreatDoor.Os
