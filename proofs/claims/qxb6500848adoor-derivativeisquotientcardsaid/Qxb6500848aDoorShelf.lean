/-
  The library's contracts, laid at this program.
-/
import Derived.Test.Qxb6500848aDoorProg
import Derived.Shelf.SlGeneric
import Derived.Ground.SlgnProg
import Derived.Ground.SlgmProg
import Derived.Shelf.SortM.Plain
import Derived.Shelf.SortM.SortNone
import Derived.Shelf.SlicesG.CompactI
import Derived.Shelf.SlicesE.Index
namespace Go.Proofs
open Go.Shelf
shelf_lay_g SlLaysM.n5 Slgm 5 at Tryd 64 as Tryd.lSort
shelf_lay_g SlLaysN.n43 Slgn 43 at Tryd 65 as Tryd.lCompact
shelf_lay_g SlLaysE.n31 Slgn 31 at Tryd 56 as Tryd.lContains
end Go.Proofs
