/-
  The library's contracts, laid at this program.
-/
import Derived.Test.Qxb6500848aGreatDoorProg
import Derived.Shelf.SlGeneric
import Derived.Ground.SlgnProg
import Derived.Ground.SlgmProg
import Derived.Shelf.SortM.Plain
import Derived.Shelf.SortM.SortNone
import Derived.Shelf.SlicesG.CompactI
import Derived.Shelf.SlicesE.Index
namespace Go.Proofs
open Go.Shelf
shelf_lay_g SlLaysM.n5 Slgm 5 at Tryz 118 as Tryz.lSort
shelf_lay_g SlLaysN.n43 Slgn 43 at Tryz 89 as Tryz.lCompact
shelf_lay_g SlLaysE.n31 Slgn 31 at Tryz 90 as Tryz.lContains
end Go.Proofs
