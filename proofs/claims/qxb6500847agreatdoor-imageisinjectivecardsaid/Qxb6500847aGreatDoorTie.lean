/-
  DERIVED. GIVEN WITH THE SEED: THE PROGRAM's TIES (one call each: nine closed facts by the kernel) AND EACH ROW's TIE, after the 31st guide's Derived/Test/Toyas{Tie, Card}.lean. No idea stands in it: it is a product of the set-up. Laid BY PROGRAM, IN A SANDBOX (cutbox-door.mjs). By AI agents, Wed Nov 11 2026. No macro, syntax, notation, axiom, sorry.
-/
import Derived.Test.Qxb6500847aGreatDoorRows
import Derived.LaidByTextLater
import Derived.SevenTiedAt
import Derived.LaidSub
import Derived.LaidOnce
namespace Go.Proofs.Qxb6500847aGreatDoor
open Go
set_option maxRecDepth 100000
theorem seatTie1 : Tryz.prog.laidByTextLater [("math/bits.deBruijn32tab", Rows.laid_math_bits_deBruijn32tab), ("math/bits.deBruijn64tab", Rows.laid_math_bits_deBruijn64tab), ("internal/strconv.uint64pow10", Rows.laid_internal_strconv_uint64pow10), ("errors.errorType", Rows.laid_errors_errorType), ("e2e/objstore.kinds", Rows.laid_e2e_objstore_kinds), ("e2e/objstorelaw.readOnly", Rows.laid_e2e_objstorelaw_readOnly)] [.data, .data, .data, .handle, .data, .mapped] true :=
  Program.laidByTextLater_by_one 109 8 65 (by kernel_rfl) (by kernel_rfl) (by kernel_rfl) (by kernel_rfl) (by kernel_rfl) (by kernel_rfl) (fun _ _ => by kernel_rfl)
theorem noOwnUnsafe : Tryz.pinned.checked.prog.headLifts.contains "ownunsafe" = false := by kernel_rfl
theorem tie : Tryz.prog.laidByTextLater [("math/bits.deBruijn64tab", Rows.laid_math_bits_deBruijn64tab), ("errors.errorType", Rows.laid_errors_errorType), ("e2e/objstore.kinds", Rows.laid_e2e_objstore_kinds)] [.data, .handle, .data] true :=
  Program.laidByTextLater.sub seatTie1 ["math/bits.deBruijn64tab", "errors.errorType", "e2e/objstore.kinds"] (by kernel_rfl) (by kernel_rfl)
theorem retypeKeepsIntervalsDisjoint_row_tie : Rows.retypeKeepsIntervalsDisjointRow.laidByTextAt .later Tryz.pinned [.data, .handle, .data] true :=
  OpenClaim.laidByTextAt_later rfl rfl tie noOwnUnsafe
theorem staleReferencesStayRefused_row_tie : Rows.staleReferencesStayRefusedRow.laidByTextAt .later Tryz.pinned [.data, .handle, .data] true :=
  OpenClaim.laidByTextAt_later rfl rfl tie noOwnUnsafe
theorem restoredArenaAnswersAlike_row_tie : Rows.restoredArenaAnswersAlikeRow.laidByTextAt .later Tryz.pinned [.data, .handle, .data] true :=
  OpenClaim.laidByTextAt_later rfl rfl tie noOwnUnsafe
theorem diffListsEveryDifference_row_tie : Rows.diffListsEveryDifferenceRow.laidByTextAt .later Tryz.pinned [.data, .handle, .data] true :=
  OpenClaim.laidByTextAt_later rfl rfl tie noOwnUnsafe
theorem tie2 : Tryz.prog.laidByTextLater [("math/bits.deBruijn32tab", Rows.laid_math_bits_deBruijn32tab), ("math/bits.deBruijn64tab", Rows.laid_math_bits_deBruijn64tab), ("internal/strconv.uint64pow10", Rows.laid_internal_strconv_uint64pow10), ("errors.errorType", Rows.laid_errors_errorType), ("e2e/objstore.kinds", Rows.laid_e2e_objstore_kinds)] [.data, .data, .data, .handle, .data] true :=
  Program.laidByTextLater.sub seatTie1 ["math/bits.deBruijn32tab", "math/bits.deBruijn64tab", "internal/strconv.uint64pow10", "errors.errorType", "e2e/objstore.kinds"] (by kernel_rfl) (by kernel_rfl)
theorem imageIsInjective_row_tie : Rows.imageIsInjectiveRow.laidByTextAt .later Tryz.pinned [.data, .data, .data, .handle, .data] true :=
  OpenClaim.laidByTextAt_later rfl rfl tie2 noOwnUnsafe
theorem tie3 : Tryz.prog.laidByTextLater [("math/bits.deBruijn64tab", Rows.laid_math_bits_deBruijn64tab), ("errors.errorType", Rows.laid_errors_errorType), ("e2e/objstore.kinds", Rows.laid_e2e_objstore_kinds), ("e2e/objstorelaw.readOnly", Rows.laid_e2e_objstorelaw_readOnly)] [.data, .handle, .data, .mapped] true :=
  Program.laidByTextLater.sub seatTie1 ["math/bits.deBruijn64tab", "errors.errorType", "e2e/objstore.kinds", "e2e/objstorelaw.readOnly"] (by kernel_rfl) (by kernel_rfl)
theorem refusalsChangeNothing_row_tie : Rows.refusalsChangeNothingRow.laidByTextAt .later Tryz.pinned [.data, .handle, .data, .mapped] true :=
  OpenClaim.laidByTextAt_later rfl rfl tie3 noOwnUnsafe
theorem tie4 : Tryz.prog.laidByTextLater [("errors.errorType", Rows.laid_errors_errorType), ("e2e/objstore.kinds", Rows.laid_e2e_objstore_kinds)] [.handle, .data] true :=
  Program.laidByTextLater.sub seatTie1 ["errors.errorType", "e2e/objstore.kinds"] (by kernel_rfl) (by kernel_rfl)
theorem fullListingNeedsTrueFloor_row_tie : Rows.fullListingNeedsTrueFloorRow.laidByTextAt .later Tryz.pinned [.handle, .data] true :=
  OpenClaim.laidByTextAt_later rfl rfl tie4 noOwnUnsafe
end Go.Proofs.Qxb6500847aGreatDoor
