/-
  copyPayload: all.
-/
import Derived.Test.Qxb6500847aGreatDoorOsTe
import Derived.Test.Qxb6500847aGreatDoorOsQf
import Derived.Test.Qxb6500847aGreatDoorOsQb
import Derived.Test.Qxb6500847aGreatDoorOsCp1
import Derived.Test.Qxb6500847aGreatDoorOsCp2
import Derived.Test.Qxb6500847aGreatDoorOsCp3
import Derived.Test.Qxb6500847aGreatDoorOsCp4
import Derived.Test.Qxb6500847aGreatDoorOsCp5
import Derived.Test.Qxb6500847aGreatDoorOsCpR
import Derived.Test.Qxb6500847aGreatDoorOsCp0w
import Derived.Test.Qxb6500847aGreatDoorOsCp0t
import Derived.Test.Qxb6500847aGreatDoorOsCp0l
import Derived.BigQuiet
import Derived.Deep.MidRow
namespace Go.Proofs.Qxb6500847aGreatDoor.Os
open Go.RowKit FloorA
set_option maxRecDepth 100000
section
variable {A : Nat} {rb sb : Nat → Nat} {s : Av} {tl : Nat → List Int} {ws : Nat → Nat → Nat → Int} {w : World} {L : Nat → List Nat} {n : Nat}
set_option maxHeartbeats 8000000 in
theorem cp_none (h : Ms w A rb sb s tl ws) (hI : IV s tl L n) (i j : Nat) (g gg : Int) (cw : Bool) (hn : ¬ Live s i g) :
    Calls Tryz.prog 66 #[.pointer (some ⟨A, 0, none⟩), .agg #[.int .u16 (i : Int), .int .u32 g], .agg #[.int .u16 (j : Int), .int .u32 gg], .bool cw] w (MrPost A rb sb s tl ws (cpyX (ob s ws) i g j gg) w) := by
  have k0 := cpW_below i j g gg w
  have HB0 := hideIt k0
  have HM0 := hideIt (h.below k0)
  have HX0 := hideIt (cpW_rb i j g gg w)
  have HI := hideIt hI
  have x5 := HX0.out.i0
  have x6 := HX0.out.i1
  clear h hI k0
  go_enter Tryz.func66, Tryz.ntmps66
  go_upto_region 1 with fail
  rw [show (w.alloc (.cells #[.int .u16 (i : Int), .int .u32 g] 32)).alloc (.cells #[.int .u16 (j : Int), .int .u32 gg] 32) = cpW i j g gg w from rfl]
  generalize cpW i j g gg w = w0 at *
  go_wp2_with fail
  go_at_call 25
  refine (Lookup_walk HM0.out HI.out i g).mono ?_
  rintro e w1 hh
  rcases hh with ⟨hnl, v, rfl, ⟨hv, hc, hb1⟩⟩ | ⟨hl, rfl, hb1⟩
  · have HB1 := hideIt (Below.thr HB0.out hb1)
    have HV1 := hideIt hv
    obtain ⟨be, rfl, _⟩ := hv
    clear hb1 x5 x6
    unfold inf7
    go_wp2_with fail
    go_ret
    exact MrPost.err (cpyX_dead hnl) ⟨HV1.out.below (by (repeat first | exact Below.refl _ _ | exact alloc_below _ | (refine Below.setCell ?_ (by first | exact Nat.le_refl _ | exact Nat.le_succ _ | (simp; done) | (simp; omega)) _) | (refine Below.alloc ?_ (by first | exact Nat.le_refl _ | (simp; done) | (simp; omega)) _))), hc, Below.thr HB1.out (by (repeat first | exact Below.refl _ _ | exact alloc_below _ | (refine Below.setCell ?_ (by first | exact Nat.le_refl _ | exact Nat.le_succ _ | (simp; done) | (simp; omega)) _) | (refine Below.alloc ?_ (by first | exact Nat.le_refl _ | (simp; done) | (simp; omega)) _)))⟩
  exact absurd hl hn
theorem cp_walk (h : Ms w A rb sb s tl ws) (hI : IV s tl L n) (hW : Wr ws) (hK : Kd w) (kl : 1 < w.heap.size) (hkz : ¬ Tz A rb sb 1) (i j : Nat) (g gg : Int) (cw : Bool) :
    Calls Tryz.prog 66 #[.pointer (some ⟨A, 0, none⟩), .agg #[.int .u16 (i : Int), .int .u32 g], .agg #[.int .u16 (j : Int), .int .u32 gg], .bool cw] w (MrPost A rb sb s tl ws (cpyX (ob s ws) i g j gg) w) := by
  by_cases hl : Live s i g
  · obtain ⟨k, ek, k7, _⟩ := hI.ge.typ i hl.1
    match k, k7, ek with
    | 0, _, ek => exact absurd ek hl.2.2.1
    | 1, _, ek => exact cp_reg h hI hW hK kl i j g gg cw ek
    | 2, _, ek =>
      cases cw with
      | false => exact cp_0w h hI hW hK kl i j g gg false ek rfl
      | true =>
        by_cases hj : Live s j gg ∧ (s.hd j).typ = 2
        · exact cp_0l h hI hW hK kl i j g gg true ek rfl hkz hj.1 hj.2
        · refine cp_0t h hI hW hK kl i j g gg true ek rfl (fun e => ?_)
          by_cases hlj : Live s j gg
          · rw [if_pos hlj] at e
            exact hj ⟨hlj, e⟩
          · rw [if_neg hlj] at e
            exact absurd e (by decide)
    | 3, _, ek => exact cp_1 h hI hW hK kl i j g gg cw ek
    | 4, _, ek => exact cp_2 h hI hW hK kl i j g gg cw ek
    | 5, _, ek => exact cp_3 h hI hW hK kl i j g gg cw ek
    | 6, _, ek => exact cp_4 h hI hW hK kl i j g gg cw ek
    | 7, _, ek => exact cp_5 h hI hW hK kl i j g gg cw ek
  · exact cp_none h hI i j g gg cw hl
end
end Go.Proofs.Qxb6500847aGreatDoor.Os
