/-
  The abstract model: a step.
-/
import Derived.Test.Qxb6500847aGreatDoorMt0
import Derived.Test.Qxb6500847aGreatDoorMt1
import Derived.Test.Qxb6500847aGreatDoorMt2
import Derived.Test.Qxb6500847aGreatDoorMt3
import Derived.Test.Qxb6500847aGreatDoorMt4
import Derived.Test.Qxb6500847aGreatDoorMt5
import Derived.Test.Qxb6500847aGreatDoorMt6
import Derived.Test.Qxb6500847aGreatDoorMt7
import Derived.Test.Qxb6500847aGreatDoorMt8
import Derived.Test.Qxb6500847aGreatDoorMt9
import Derived.Test.Qxb6500847aGreatDoorMt10
import Derived.Test.Qxb6500847aGreatDoorMt11
import Derived.Test.Qxb6500847aGreatDoorMt12
import Derived.Test.Qxb6500847aGreatDoorMt13
import Derived.Test.Qxb6500847aGreatDoorMt14
import Derived.Test.Qxb6500847aGreatDoorMt15
import Derived.Test.Qxb6500847aGreatDoorMt16
import Derived.Test.Qxb6500847aGreatDoorMt17
import Derived.Test.Qxb6500847aGreatDoorMt19
import Derived.Test.Qxb6500847aGreatDoorMt20
import Derived.Test.Qxb6500847aGreatDoorMt18
import Derived.Test.Qxb6500847aGreatDoorMtD
import Derived.Test.Qxb6500847aGreatDoorOxSx
namespace Go.Proofs.Qxb6500847aGreatDoor.Os
open Go.RowKit FloorA
set_option maxRecDepth 100000
section
variable {s : Av} {tl : Nat → List Int} {ws : Nat → Nat → Nat → Int} {L : Nat → List Nat} {n : Nat} {w : World} {B : Nat} {wb : Nat → Nat}
theorem step_m (h : Md w B wb (ob s ws)) (hS : Sd s tl ws L n) (v : OpV) {C o : Nat} (hv : OpAt w C o v) :
    Calls Tryz.prog 19 #[.pointer (some ⟨B, 0, none⟩), .agg v.arr] w (MsP B wb (ob s ws) (stepX (ob s ws) v) w) := by
  obtain ⟨k, i, g, j, gg, t, bt, ct, fd, a, b, wv, m, X⟩ := v
  obtain ⟨_, _, hg, ht, hbt, hct, hfd, ha, hb, hm, h6, j6⟩ := hv
  simp only at hg ht hbt hct hfd ha hb hm h6 j6
  show Calls Tryz.prog 19 #[.pointer (some ⟨B, 0, none⟩), .agg (opA k i g j gg t bt ct fd a b wv)] w (MsP B wb (ob s ws) (stepX (ob s ws) ⟨k, i, g, j, gg, t, bt, ct, fd, a, b, wv, m, X⟩) w)
  match k with
  | 0 => exact mst0 h hS i g j gg t bt ct fd a b wv ha hb
  | 1 => exact mst1 h hS i g j gg t bt ct fd a b wv h6 hbt hct
  | 2 => exact mst2 h hS i g j gg t bt ct fd a b wv h6 hbt
  | 3 => exact mst3 h hS i g j gg t bt ct fd a b wv h6
  | 4 => exact mst4 h hS i g j gg t bt ct fd a b wv h6
  | 5 => exact mst5 h hS i g j gg t bt ct fd a b wv
  | 6 => exact mst6 h hS i g j gg t bt ct fd a b wv h6
  | 7 => exact mst7 h hS i g j gg t bt ct fd a b wv h6
  | 8 => exact mst8 h hS i g j gg t bt ct fd a b wv h6
  | 9 => exact mst9 h hS i g j gg t bt ct fd a b wv
  | 10 => exact mst10 h hS i g j gg t bt ct fd a b wv
  | 11 => exact mst11 h hS i g j gg t bt ct fd a b wv h6
  | 12 => exact mst12 h hS i g j gg t bt ct fd a b wv h6 hfd
  | 13 => exact mst13 h hS i g j gg t bt ct fd a b wv h6 hfd ha
  | 14 => exact mst14 h hS i g j gg t bt ct fd a b wv h6
  | 15 => exact mst15 h hS i g j gg t bt ct fd a b wv h6 hm
  | 16 => exact mst16 h hS i g j gg t bt ct fd a b wv h6
  | 17 => exact mst17 h hS i g j gg t bt ct fd a b wv h6 j6
  | 18 => exact mst18 h hS i g j gg t bt ct fd a b wv
  | 19 => exact mst19 h hS i g j gg t bt ct fd a b wv h6
  | 20 => exact mst20 h hS i g j gg t bt ct fd a b wv h6 j6
  | k + 21 => exact mstD h hS i g j gg t bt ct fd a b wv (k + 21) (by omega)
end
end Go.Proofs.Qxb6500847aGreatDoor.Os
