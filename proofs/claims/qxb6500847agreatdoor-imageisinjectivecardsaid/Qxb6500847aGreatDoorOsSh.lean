/-
  The library's contracts at this program.
-/
import Derived.Shelf.SlSorted.Search
import Derived.Ground.SlsoProg
import Derived.Test.Qxb6500847aGreatDoorProg
namespace Go.Proofs
open Go.Shelf
def Tryz.lSearch_ren : Go.Shelf.Ren := ⟨fun | 16 => 235 | n => n, fun | 3 => 3 | 35 => 325 | 4 => 4 | 38 => 259 | n => n, fun | n => n⟩
theorem Tryz.lSearch : Go.Proofs.SlLaysO.n16 Tryz.prog Tryz.lSearch_ren := {
  mixed := by kernel_rfl
  f16 := Tryz.func235.trans (congrArg some (by kernel_rfl))
  t3 := Tryz.underlying3
  a3 := Tryz.isAgg3
  z3 := Tryz.sizeOf3
  v3 := Tryz.zeroValue3
  t4 := Tryz.underlying4
  a4 := Tryz.isAgg4
  z4 := Tryz.sizeOf4
  v4 := Tryz.zeroValue4
  t35 := Tryz.underlying325
  a35 := Tryz.isAgg325
  z35 := Tryz.sizeOf325
  v35 := Tryz.zeroValue325
  t38 := Tryz.underlying259
  a38 := Tryz.isAgg259
  z38 := Tryz.sizeOf259
  v38 := Tryz.zeroValue259 }
end Go.Proofs
