/-
  The row's closed cells, one theorem each (the kernel's memory is given back between them).
-/
import Derived.Test.Qxb6500848aDoorCards
import Derived.JoinedOf
import Derived.WalkKit
namespace Go.Proofs.Qxb6500848aDoor.QuotA
open Go.ChangeShapes Go.WideShapes
theorem jf0 : Rows.derivativeIsQuotientRow.wf (OpenSpec.ofChange Rows.derivativeIsQuotientSpec) = true := by kernel_rfl
theorem jf1 : laidOutB Tryd.prog = true := by kernel_rfl
theorem jf2 : mapsRowed Tryd.prog = true := by kernel_rfl
theorem jf3 : Tryd.f3.params.all (Tryd.prog.readableRec ·) = true := by kernel_rfl
theorem jf4 : namedTie Tryd.prog Rows.derivativeIsQuotientRow.named Rows.derivativeIsQuotientSpec.vars = true := by kernel_rfl
theorem jf5 : (Rows.derivativeIsQuotientRow.stops == []) = true := by kernel_rfl
theorem jf6 : (Tryd.prog.stops == []) = true := by kernel_rfl
theorem jf7 : (Rows.derivativeIsQuotientRow.knobs == []) = true := by kernel_rfl
theorem jf8 : (Tryd.prog.stopKnobs == []) = true := by kernel_rfl
theorem jf9 : (Rows.derivativeIsQuotientRow.inPlace == Tryd.prog.inPlace 3) = true := by kernel_rfl
theorem jf10 : (Rows.derivativeIsQuotientRow.unfollowed == Tryd.prog.unfollowed 3) = true := by kernel_rfl
end Go.Proofs.Qxb6500848aDoor.QuotA
