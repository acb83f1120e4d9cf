/-
  play, exactly.
-/
import Derived.Test.Qxb6500847aGreatDoorOxP0
import Derived.Test.Qxb6500847aGreatDoorOxP1
import Derived.Test.Qxb6500847aGreatDoorOxP2
import Derived.Test.Qxb6500847aGreatDoorOxP3
import Derived.Test.Qxb6500847aGreatDoorOxP4
import Derived.Test.Qxb6500847aGreatDoorOxP5
import Derived.Test.Qxb6500847aGreatDoorOxP6
import Derived.Test.Qxb6500847aGreatDoorOxP7
import Derived.Test.Qxb6500847aGreatDoorOxP8
import Derived.Test.Qxb6500847aGreatDoorOxP9
import Derived.Test.Qxb6500847aGreatDoorOxP10
import Derived.Test.Qxb6500847aGreatDoorOxP11
import Derived.Test.Qxb6500847aGreatDoorOxP12
import Derived.Test.Qxb6500847aGreatDoorOxP13a
import Derived.Test.Qxb6500847aGreatDoorOxP13b
import Derived.Test.Qxb6500847aGreatDoorOxP14
import Derived.Test.Qxb6500847aGreatDoorOxP15
import Derived.Test.Qxb6500847aGreatDoorOxP16
import Derived.Test.Qxb6500847aGreatDoorOxP17
import Derived.Test.Qxb6500847aGreatDoorOxP18
import Derived.Test.Qxb6500847aGreatDoorOxP19
import Derived.Test.Qxb6500847aGreatDoorOxP20
import Derived.Test.Qxb6500847aGreatDoorOxPD
import Derived.Test.Qxb6500847aGreatDoorOxSx
namespace Go.Proofs.Qxb6500847aGreatDoor.Os
open Go.RowKit FloorA
set_option maxRecDepth 100000
section
variable {P A : Nat} {rb sb : Nat → Nat} {s : Av} {tl : Nat → List Int} {ws : Nat → Nat → Nat → Int} {w : World} {L : Nat → List Nat} {n : Nat}
theorem play_x (h : Hx P A rb sb s tl ws L n w) (v : OpV) {B o : Nat} (hv : OpAt w B o v) :
    Calls Tryz.prog 17 #[.pointer (some ⟨P, 0, none⟩), .agg v.arr] w (PxPost P A rb sb (stepX (ob s ws) v) w) := by
  obtain ⟨k, i, g, j, gg, t, bt, ct, fd, a, b, wv, m, X⟩ := v
  obtain ⟨_, _, hg, ht, hbt, hct, hfd, ha, hb, hm, _, _⟩ := hv
  simp only at hg ht hbt hct hfd ha hb hm
  show Calls Tryz.prog 17 #[.pointer (some ⟨P, 0, none⟩), .agg (opA k i g j gg t bt ct fd a b wv)] w (PxPost P A rb sb (stepX (ob s ws) ⟨k, i, g, j, gg, t, bt, ct, fd, a, b, wv, m, X⟩) w)
  match k with
  | 0 => exact plx0 h i g j gg t bt ct fd a b wv ha hb
  | 1 => exact plx1 h i g j gg t bt ct fd a b wv ht hbt hct
  | 2 => exact plx2 h i g j gg t bt ct fd a b wv ht hbt
  | 3 => exact plx3 h i g j gg t bt ct fd a b wv
  | 4 => exact plx4 h i g j gg t bt ct fd a b wv
  | 5 => exact plx5 h i g j gg t bt ct fd a b wv hg
  | 6 => exact plx6 h i g j gg t bt ct fd a b wv
  | 7 => exact plx7 h i g j gg t bt ct fd a b wv
  | 8 => exact plx8 h i g j gg t bt ct fd a b wv
  | 9 => exact plx9 h i g j gg t bt ct fd a b wv
  | 10 => exact plx10 h i g j gg t bt ct fd a b wv
  | 11 => exact plx11 h i g j gg t bt ct fd a b wv
  | 12 => exact plx12 h i g j gg t bt ct fd a b wv hfd
  | 13 =>
      rcases Nat.mod_two_eq_zero_or_one b with e | e
      · exact plx13b h i g j gg t bt ct fd a b wv hfd ha (by omega)
      · exact plx13a h i g j gg t bt ct fd a b wv hfd ha (by omega)
  | 14 => exact plx14 h i g j gg t bt ct fd a b wv
  | 15 => exact plx15 h i g j gg t bt ct fd a b wv hm
  | 16 => exact plx16 h i g j gg t bt ct fd a b wv
  | 17 => exact plx17 h i g j gg t bt ct fd a b wv
  | 18 => exact plx18 h i g j gg t bt ct fd a b wv
  | 19 => exact plx19 h i g j gg t bt ct fd a b wv
  | 20 => exact plx20 h i g j gg t bt ct fd a b wv
  | k + 21 => exact plxD h i g j gg t bt ct fd a b wv (k + 21) (by omega)
end
end Go.Proofs.Qxb6500847aGreatDoor.Os
