/-
  play.
-/
import Derived.Test.Qxb6500847aGreatDoorOsPl0
import Derived.Test.Qxb6500847aGreatDoorOsPl1
import Derived.Test.Qxb6500847aGreatDoorOsPl2
import Derived.Test.Qxb6500847aGreatDoorOsPl3
import Derived.Test.Qxb6500847aGreatDoorOsPl4
import Derived.Test.Qxb6500847aGreatDoorOsPl5
import Derived.Test.Qxb6500847aGreatDoorOsPl6
import Derived.Test.Qxb6500847aGreatDoorOsPl7
import Derived.Test.Qxb6500847aGreatDoorOsPl8
import Derived.Test.Qxb6500847aGreatDoorOsPl9
import Derived.Test.Qxb6500847aGreatDoorOsPl10
import Derived.Test.Qxb6500847aGreatDoorOsPl11
import Derived.Test.Qxb6500847aGreatDoorOsPl12
import Derived.Test.Qxb6500847aGreatDoorOsPl13a
import Derived.Test.Qxb6500847aGreatDoorOsPl13b
import Derived.Test.Qxb6500847aGreatDoorOsPl14
import Derived.Test.Qxb6500847aGreatDoorOsPl15
import Derived.Test.Qxb6500847aGreatDoorOsPl16
import Derived.Test.Qxb6500847aGreatDoorOsPl17
import Derived.Test.Qxb6500847aGreatDoorOsPl18
import Derived.Test.Qxb6500847aGreatDoorOsPl19
import Derived.Test.Qxb6500847aGreatDoorOsPl20
import Derived.Test.Qxb6500847aGreatDoorOsPlD
import Derived.Test.Qxb6500847aGreatDoorOsOp
namespace Go.Proofs.Qxb6500847aGreatDoor.Os
open Go.RowKit FloorA
set_option maxRecDepth 100000
section
variable {P A : Nat} {rb sb : Nat → Nat} {s : Av} {tl : Nat → List Int} {ws : Nat → Nat → Nat → Int} {w : World} {L : Nat → List Nat} {n : Nat}
theorem play_walk (h : Hs P A rb sb s tl ws L n w) (v : OpV) {B o : Nat} (hv : OpAt w B o v) :
    Calls Tryz.prog 17 #[.pointer (some ⟨P, 0, none⟩), .agg v.arr] w (PyPost P A rb sb s ws v.k (QQ v.k v.i v.g s w.heap.size) w) := by
  obtain ⟨k, i, g, j, gg, t, bt, ct, fd, a, b, wv⟩ := v
  obtain ⟨_, _, hg, ht, hbt, hct, hfd, ha, hb, m, hm⟩ := hv
  simp only at hg ht hbt hct hfd ha hb hm
  show Calls Tryz.prog 17 #[.pointer (some ⟨P, 0, none⟩), .agg (opA k i g j gg t bt ct fd a b wv)] w (PyPost P A rb sb s ws k (QQ k i g s w.heap.size) w)
  match k with
  | 0 => exact play0 h i g j gg t bt ct fd a b wv ha hb
  | 1 => exact play1 h i g j gg t bt ct fd a b wv ht hbt hct
  | 2 => exact play2 h i g j gg t bt ct fd a b wv ht hbt
  | 3 => exact play3 h i g j gg t bt ct fd a b wv
  | 4 => exact play4 h i g j gg t bt ct fd a b wv
  | 5 => exact play5 h i g j gg t bt ct fd a b wv hg
  | 6 => exact play6 h i g j gg t bt ct fd a b wv
  | 7 => exact play7 h i g j gg t bt ct fd a b wv
  | 8 => exact play8 h i g j gg t bt ct fd a b wv
  | 9 => exact play9 h i g j gg t bt ct fd a b wv
  | 10 => exact play10 h i g j gg t bt ct fd a b wv
  | 11 => exact play11 h i g j gg t bt ct fd a b wv
  | 12 => exact play12 h i g j gg t bt ct fd a b wv hfd
  | 13 =>
      rcases Nat.mod_two_eq_zero_or_one b with e | e
      · exact play13b h i g j gg t bt ct fd a b wv hfd ha (by omega)
      · exact play13a h i g j gg t bt ct fd a b wv hfd ha (by omega)
  | 14 => exact play14 h i g j gg t bt ct fd a b wv
  | 15 => exact play15 h i g j gg t bt ct fd a b wv hm
  | 16 => exact play16 h i g j gg t bt ct fd a b wv
  | 17 => exact play17 h i g j gg t bt ct fd a b wv
  | 18 => exact play18 h i g j gg t bt ct fd a b wv
  | 19 => exact play19 h i g j gg t bt ct fd a b wv
  | 20 => exact play20 h i g j gg t bt ct fd a b wv
  | k + 21 => exact playD h i g j gg t bt ct fd a b wv (k + 21) (by omega)
end
end Go.Proofs.Qxb6500847aGreatDoor.Os
