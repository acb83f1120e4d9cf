/-
  DERIVED. GIVEN WITH THE SEED: THE PROGRAM's TIES (one call each: nine closed facts by the kernel) AND EACH ROW's TIE, after the 31st guide's Derived/Test/Toyas{Tie, Card}.lean. No idea stands in it: it is a product of the set-up. Laid BY PROGRAM, IN A SANDBOX (cutbox-door.mjs). By AI agents, Wed Nov 11 2026. No macro, syntax, notation, axiom, sorry.
-/
import Derived.Test.Qxb6500848aGreatDoorRows
import Derived.LaidByTextLater
import Derived.SevenTiedAt
import Derived.LaidSub
import Derived.LaidOnce
namespace Go.Proofs.Qxb6500848aGreatDoor
open Go
set_option maxRecDepth 100000
theorem seatTie1 : Tryz.prog.laidByTextLater [("math/bits.deBruijn64tab", Rows.laid_math_bits_deBruijn64tab), ("e2e/regexm.ErrFull", Rows.laid_e2e_regexm_ErrFull), ("e2e/deriv.ErrNotPlain", Rows.laid_e2e_deriv_ErrNotPlain), ("e2e/deriv.ErrNoBlock", Rows.laid_e2e_deriv_ErrNoBlock)] [.data, .sentinel, .sentinel, .sentinel] true :=
  Program.laidByTextLater_by_one 71 8 65 (by kernel_rfl) (by kernel_rfl) (by kernel_rfl) (by kernel_rfl) (by kernel_rfl) (by kernel_rfl) (fun _ _ => by kernel_rfl)
theorem noOwnUnsafe : Tryz.pinned.checked.prog.headLifts.contains "ownunsafe" = false := by kernel_rfl
theorem tie : Tryz.prog.laidByTextLater [("math/bits.deBruijn64tab", Rows.laid_math_bits_deBruijn64tab), ("e2e/regexm.ErrFull", Rows.laid_e2e_regexm_ErrFull), ("e2e/deriv.ErrNoBlock", Rows.laid_e2e_deriv_ErrNoBlock)] [.data, .sentinel, .sentinel] true :=
  Program.laidByTextLater.sub seatTie1 ["math/bits.deBruijn64tab", "e2e/regexm.ErrFull", "e2e/deriv.ErrNoBlock"] (by kernel_rfl) (by kernel_rfl)
theorem sameMintermSameDerivative_row_tie : Rows.sameMintermSameDerivativeRow.laidByTextAt .later Tryz.pinned [.data, .sentinel, .sentinel] true :=
  OpenClaim.laidByTextAt_later rfl rfl tie noOwnUnsafe
theorem tie2 : Tryz.prog.laidByTextLater [("math/bits.deBruijn64tab", Rows.laid_math_bits_deBruijn64tab), ("e2e/regexm.ErrFull", Rows.laid_e2e_regexm_ErrFull), ("e2e/deriv.ErrNotPlain", Rows.laid_e2e_deriv_ErrNotPlain)] [.data, .sentinel, .sentinel] true :=
  Program.laidByTextLater.sub seatTie1 ["math/bits.deBruijn64tab", "e2e/regexm.ErrFull", "e2e/deriv.ErrNotPlain"] (by kernel_rfl) (by kernel_rfl)
theorem antimirovAgrees_row_tie : Rows.antimirovAgreesRow.laidByTextAt .later Tryz.pinned [.data, .sentinel, .sentinel] true :=
  OpenClaim.laidByTextAt_later rfl rfl tie2 noOwnUnsafe
theorem finitelyManyPartials_row_tie : Rows.finitelyManyPartialsRow.laidByTextAt .later Tryz.pinned [.data, .sentinel, .sentinel] true :=
  OpenClaim.laidByTextAt_later rfl rfl tie2 noOwnUnsafe
theorem memoChangesNothing_row_tie : Rows.memoChangesNothingRow.laidByTextAt .later Tryz.pinned [.data, .sentinel, .sentinel] true :=
  OpenClaim.laidByTextAt_later rfl rfl tie2 noOwnUnsafe
theorem matchersDecideMembership_row_tie : Rows.matchersDecideMembershipRow.laidByTextAt .later Tryz.pinned [.data, .sentinel, .sentinel] true :=
  OpenClaim.laidByTextAt_later rfl rfl tie2 noOwnUnsafe
theorem tie3 : Tryz.prog.laidByTextLater [("math/bits.deBruijn64tab", Rows.laid_math_bits_deBruijn64tab), ("e2e/regexm.ErrFull", Rows.laid_e2e_regexm_ErrFull)] [.data, .sentinel] true :=
  Program.laidByTextLater.sub seatTie1 ["math/bits.deBruijn64tab", "e2e/regexm.ErrFull"] (by kernel_rfl) (by kernel_rfl)
theorem finitelyManyDerivatives_row_tie : Rows.finitelyManyDerivativesRow.laidByTextAt .later Tryz.pinned [.data, .sentinel] true :=
  OpenClaim.laidByTextAt_later rfl rfl tie3 noOwnUnsafe
theorem tie4 : Tryz.prog.laidByTextLater [("math/bits.deBruijn64tab", Rows.laid_math_bits_deBruijn64tab), ("e2e/regexm.ErrFull", Rows.laid_e2e_regexm_ErrFull), ("e2e/deriv.ErrNotPlain", Rows.laid_e2e_deriv_ErrNotPlain), ("e2e/deriv.ErrNoBlock", Rows.laid_e2e_deriv_ErrNoBlock)] [.data, .sentinel, .sentinel, .sentinel] true :=
  Program.laidByTextLater.sub seatTie1 ["math/bits.deBruijn64tab", "e2e/regexm.ErrFull", "e2e/deriv.ErrNotPlain", "e2e/deriv.ErrNoBlock"] (by kernel_rfl) (by kernel_rfl)
theorem refinesModel_row_tie : Rows.refinesModelRow.laidByTextAt .later Tryz.pinned [.data, .sentinel, .sentinel, .sentinel] true :=
  OpenClaim.laidByTextAt_later rfl rfl tie4 noOwnUnsafe
end Go.Proofs.Qxb6500848aGreatDoor
