/-
  What three listed variables give a walk.
-/
import Derived.Test.Qxb6500847aGreatDoorOxLa
namespace Go.Proofs.Qxb6500847aGreatDoor.Os
open Go.ChangeShapes Go.WideShapes Go.RowKit Go.WideElems Go.Maps FloorA
set_option maxRecDepth 100000
theorem of_laid3 {W : World} (h : laidMetH Tryz.prog [("math/bits.deBruijn64tab", Rows.laid_math_bits_deBruijn64tab), ("errors.errorType", Rows.laid_errors_errorType), ("e2e/objstore.kinds", Rows.laid_e2e_objstore_kinds)] W) : Gl W := by
  have h' : laidMet Tryz.prog [("math/bits.deBruijn64tab", Rows.laid_math_bits_deBruijn64tab), ("e2e/objstore.kinds", Rows.laid_e2e_objstore_kinds)] W ∧ handlesMet Tryz.prog [("errors.errorType", Rows.laid_errors_errorType)] W := h
  obtain ⟨⟨ps, ⟨g0, t0, cs0, f0, p0, q0, hg0, ht0, hv0, hd0, ⟨g1, t1, cs1, f1, p1, q1, hg1, ht1, hv1, hd1, _, _⟩, _⟩, _, _⟩, hh⟩ := h'
  obtain rfl := Option.some.inj (tabG.symm.trans hg0)
  obtain rfl := Option.some.inj (kinG.symm.trans hg1)
  obtain rfl := Option.some.inj (tabT.symm.trans ht0)
  obtain rfl := Option.some.inj (kinT.symm.trans ht1)
  have hg := gd_of hv0 hd0
  exact ⟨hg, kd_of hv1 hd1, ed_of hh, cell_lt (hg 0 (by omega))⟩
end Go.Proofs.Qxb6500847aGreatDoor.Os
