/-
  ImageIsInjective: what five listed variables give a walk.
-/
import Derived.Test.Qxb6500847aGreatDoorOxLa
import Derived.Test.Qxb6500847aGreatDoorImC
import Derived.Lib.LaidTab
namespace Go.Proofs.Qxb6500847aGreatDoor.Os
open Go.ChangeShapes Go.WideShapes Go.RowKit Go.WideElems Go.Maps FloorA Go.Lib
set_option maxRecDepth 100000
theorem powG : Tryz.prog.globalNamed "internal/strconv.uint64pow10" = some 4 := by kernel_rfl
theorem powT : (Tryz.prog.globals[4]?).map (·.type) = some 427 := by kernel_rfl
theorem cells427 : Tryz.prog.cellsOf 427 = 20 := by kernel_rfl
theorem powD : (Rows.laid_internal_strconv_uint64pow10 : DataW Unit) = tabData .u64 pow10Tab := rfl
theorem of_laid5 {W : World} (h : laidMetH Tryz.prog [("math/bits.deBruijn32tab", Rows.laid_math_bits_deBruijn32tab), ("math/bits.deBruijn64tab", Rows.laid_math_bits_deBruijn64tab), ("internal/strconv.uint64pow10", Rows.laid_internal_strconv_uint64pow10), ("errors.errorType", Rows.laid_errors_errorType), ("e2e/objstore.kinds", Rows.laid_e2e_objstore_kinds)] W) : Gl W ∧ Tbw W := by
  have h' : laidMet Tryz.prog [("math/bits.deBruijn32tab", Rows.laid_math_bits_deBruijn32tab), ("math/bits.deBruijn64tab", Rows.laid_math_bits_deBruijn64tab), ("internal/strconv.uint64pow10", Rows.laid_internal_strconv_uint64pow10), ("e2e/objstore.kinds", Rows.laid_e2e_objstore_kinds)] W ∧ handlesMet Tryz.prog [("errors.errorType", Rows.laid_errors_errorType)] W := h
  obtain ⟨⟨ps, ⟨_, _, _, _, _, _, _, _, _, _, ⟨g0, t0, cs0, f0, p0, q0, hg0, ht0, hv0, hd0, ⟨g2, t2, cs2, f2, p2, q2, hg2, ht2, hv2, hd2, ⟨g1, t1, cs1, f1, p1, q1, hg1, ht1, hv1, hd1, _, _⟩, _⟩, _⟩, _⟩, _, _⟩, hh⟩ := h'
  obtain rfl := Option.some.inj (tabG.symm.trans hg0)
  obtain rfl := Option.some.inj (kinG.symm.trans hg1)
  obtain rfl := Option.some.inj (powG.symm.trans hg2)
  obtain rfl := Option.some.inj (tabT.symm.trans ht0)
  obtain rfl := Option.some.inj (kinT.symm.trans ht1)
  obtain rfl := Option.some.inj (powT.symm.trans ht2)
  have hg := gd_of hv0 hd0
  refine ⟨⟨hg, kd_of hv1 hd1, ed_of hh, cell_lt (hg 0 (by omega))⟩, ?_⟩
  unfold Tbw TabIs
  rw [powD] at hd2
  rw [hv2, ← cells_of_tab Tryz.underlying427 Tryz.underlying34 cells34 cells427 hd2]
end Go.Proofs.Qxb6500847aGreatDoor.Os
