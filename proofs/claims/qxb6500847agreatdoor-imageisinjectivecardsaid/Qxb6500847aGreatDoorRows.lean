/-
  NARROWER THAN 'FOR EVERY INPUT', by the rows' own cells (each row's printed sentence says how): RetypeKeepsIntervalsDisjoint: laid · StaleReferencesStayRefused: laid · ImageIsInjective: laid · RestoredArenaAnswersAlike: laid · RefusalsChangeNothing: laid · DiffListsEveryDifference: laid · FullListingNeedsTrueFloor: laid.
  DERIVED. THE GIVEN ROWS OF THIS SEAT. 7 by the template 'for every input the law returns true; each argument reads behind the call as it read before'; 0 by the template 'total and deterministic' (their statements: Qxb6500847aGreatDoorTotals.lean).
  GIVEN WITH THE SEED: the statements are not yours to turn. If you find one false, say at which input.
  Laid BY PROGRAM, IN A SANDBOX (cutbox-rows.mjs): the forced cells as the released guide's own fill.sh prints them over the translation d5be2c1e82b8be88… (all of the seat's roots in one cut). By AI agents, Wed Nov 11 2026. No macro, syntax, notation, axiom, sorry.
-/
import Derived.Test.Qxb6500847aGreatDoorChecked
import GoSem.Claim
import GoSem.ClaimJoined
import GoSem.ClaimMapViews
import Derived.JoinedTies
import Derived.KernelRfl
namespace Go.Proofs.Qxb6500847aGreatDoor
/- THE CELL 'sum', in the pinned program and in every row, IS THE sha256 OF THE DUMP (.gsa) THAT Qxb6500847aGreatDoorProg.lean LOADS. Nothing in Lean hashes anything: it is a label: what it is worth is what the hold of that sum in a sandbox is worth. -/
noncomputable def Tryz.pinned : Pinned := { name := "qxb6500847agreatdoor", sum := "d5be2c1e82b8be88a39584ebbdc4b376360fc39b45587d04b35236117cee8611", checked := Tryz.checked }
namespace Rows
def none {H : Type} : Left H := { results := [], args := [] }

/- WHAT THE LISTED PACKAGE-LEVEL VARIABLES READ AS WHEN THE CALL BEGINS. Each datum BY PROGRAM (the guide's laid-datum.mjs) off the statement by which the dump's own 'gosem.cut.vars' lays the variable. In a bare row this is a premise. The card (Qxb6500847aGreatDoorCards.lean) ties it to the program's text. -/
def laid_math_bits_deBruijn64tab {H : Type} : DataW H := .agg [.lit (.int .u8 0), .lit (.int .u8 1), .lit (.int .u8 56), .lit (.int .u8 2), .lit (.int .u8 57), .lit (.int .u8 49), .lit (.int .u8 28), .lit (.int .u8 3), .lit (.int .u8 61), .lit (.int .u8 58), .lit (.int .u8 42), .lit (.int .u8 50), .lit (.int .u8 38), .lit (.int .u8 29), .lit (.int .u8 17), .lit (.int .u8 4), .lit (.int .u8 62), .lit (.int .u8 47), .lit (.int .u8 59), .lit (.int .u8 36), .lit (.int .u8 45), .lit (.int .u8 43), .lit (.int .u8 51), .lit (.int .u8 22), .lit (.int .u8 53), .lit (.int .u8 39), .lit (.int .u8 33), .lit (.int .u8 30), .lit (.int .u8 24), .lit (.int .u8 18), .lit (.int .u8 12), .lit (.int .u8 5), .lit (.int .u8 63), .lit (.int .u8 55), .lit (.int .u8 48), .lit (.int .u8 27), .lit (.int .u8 60), .lit (.int .u8 41), .lit (.int .u8 37), .lit (.int .u8 16), .lit (.int .u8 46), .lit (.int .u8 35), .lit (.int .u8 44), .lit (.int .u8 21), .lit (.int .u8 52), .lit (.int .u8 32), .lit (.int .u8 23), .lit (.int .u8 11), .lit (.int .u8 54), .lit (.int .u8 26), .lit (.int .u8 40), .lit (.int .u8 15), .lit (.int .u8 34), .lit (.int .u8 20), .lit (.int .u8 31), .lit (.int .u8 10), .lit (.int .u8 25), .lit (.int .u8 14), .lit (.int .u8 19), .lit (.int .u8 9), .lit (.int .u8 13), .lit (.int .u8 8), .lit (.int .u8 7), .lit (.int .u8 6)]
def laid_errors_errorType {H : Type} : DataW H := .iface "internal/reflectlite.rtype" (.agg [.ptr (.lit (.string [101, 114, 114, 111, 114]))])
def laid_e2e_objstore_kinds {H : Type} : DataW H := .agg [.agg [.lit (.string [110, 111, 110, 101]), .lit (.int .u8 0), .lit (.int .i64 0), .lit (.int .i64 0)], .agg [.lit (.string [117, 110, 116, 121, 112, 101, 100]), .lit (.int .u8 0), .lit (.int .i64 64), .lit (.int .i64 0)], .agg [.lit (.string [99, 110, 111, 100, 101]), .lit (.int .u8 9), .lit (.int .i64 64), .lit (.int .i64 112)], .agg [.lit (.string [116, 104, 114, 101, 97, 100]), .lit (.int .u8 10), .lit (.int .i64 64), .lit (.int .i64 18)], .agg [.lit (.string [101, 110, 100, 112, 111, 105, 110, 116]), .lit (.int .u8 4), .lit (.int .i64 128), .lit (.int .i64 3)], .agg [.lit (.string [110, 111, 116, 105, 102, 105, 99, 97, 116, 105, 111, 110]), .lit (.int .u8 5), .lit (.int .i64 64), .lit (.int .i64 4)], .agg [.lit (.string [114, 101, 112, 108, 121]), .lit (.int .u8 4), .lit (.int .i64 64), .lit (.int .i64 2)], .agg [.lit (.string [105, 114, 113, 104, 97, 110, 100, 108, 101, 114]), .lit (.int .u8 4), .lit (.int .i64 32), .lit (.int .i64 4)]]
def laid_math_bits_deBruijn32tab {H : Type} : DataW H := .agg [.lit (.int .u8 0), .lit (.int .u8 1), .lit (.int .u8 28), .lit (.int .u8 2), .lit (.int .u8 29), .lit (.int .u8 14), .lit (.int .u8 24), .lit (.int .u8 3), .lit (.int .u8 30), .lit (.int .u8 22), .lit (.int .u8 20), .lit (.int .u8 15), .lit (.int .u8 25), .lit (.int .u8 17), .lit (.int .u8 4), .lit (.int .u8 8), .lit (.int .u8 31), .lit (.int .u8 27), .lit (.int .u8 13), .lit (.int .u8 23), .lit (.int .u8 21), .lit (.int .u8 19), .lit (.int .u8 16), .lit (.int .u8 7), .lit (.int .u8 26), .lit (.int .u8 12), .lit (.int .u8 18), .lit (.int .u8 6), .lit (.int .u8 11), .lit (.int .u8 5), .lit (.int .u8 10), .lit (.int .u8 9)]
def laid_internal_strconv_uint64pow10 {H : Type} : DataW H := .agg [.lit (.int .u64 1), .lit (.int .u64 10), .lit (.int .u64 100), .lit (.int .u64 1000), .lit (.int .u64 10000), .lit (.int .u64 100000), .lit (.int .u64 1000000), .lit (.int .u64 10000000), .lit (.int .u64 100000000), .lit (.int .u64 1000000000), .lit (.int .u64 10000000000), .lit (.int .u64 100000000000), .lit (.int .u64 1000000000000), .lit (.int .u64 10000000000000), .lit (.int .u64 100000000000000), .lit (.int .u64 1000000000000000), .lit (.int .u64 10000000000000000), .lit (.int .u64 100000000000000000), .lit (.int .u64 1000000000000000000), .lit (.int .u64 10000000000000000000)]
def laid_e2e_objstorelaw_readOnly {H : Type} : DataW H := .map [(.int .u8 2, .lit (.bool true)), (.int .u8 6, .lit (.bool true)), (.int .u8 7, .lit (.bool true)), (.int .u8 8, .lit (.bool true)), (.int .u8 9, .lit (.bool true)), (.int .u8 10, .lit (.bool true)), (.int .u8 11, .lit (.bool true)), (.int .u8 12, .lit (.bool true)), (.int .u8 14, .lit (.bool true)), (.int .u8 18, .lit (.bool true)), (.int .u8 19, .lit (.bool true)), (.int .u8 20, .lit (.bool true))]

/-- 'objstorelaw.RetypeKeepsIntervalsDisjoint': WHATEVER THE INPUT: true; the input reads as it did. -/
def retypeKeepsIntervalsDisjointSpec : ChangeSpec := { name := "retypeKeepsIntervalsDisjoint", fn := fun _ => fun
  | [d] => { results := [.lit (.bool true)], args := [d] }
  | _ => none }
def retypeKeepsIntervalsDisjointRow : OpenClaim := { program := "qxb6500847agreatdoor", sum := "d5be2c1e82b8be88a39584ebbdc4b376360fc39b45587d04b35236117cee8611", func := "e2e/objstorelaw.RetypeKeepsIntervalsDisjoint", spec := "retypeKeepsIntervalsDisjoint", inPlace := ["internal/reflectlite.ValueOf", "(internal/reflectlite.Value).Type", "(internal/reflectlite.Value).IsNil", "internal/reflectlite.TypeOf", "(internal/reflectlite.Value).Elem", "(internal/reflectlite.Value).Set", "internal/reflectlite.Swapper", "(internal/reflectlite.Value).Len"], unfollowed := true, recurses := true, named := ["math/bits.deBruijn64tab", "e2e/objstore.kinds", "errors.errorType"], plainKeys := false, apart := false, laid := [("math/bits.deBruijn64tab", laid_math_bits_deBruijn64tab), ("errors.errorType", laid_errors_errorType), ("e2e/objstore.kinds", laid_e2e_objstore_kinds)] }
def RetypeKeepsIntervalsDisjointSaid : Prop := retypeKeepsIntervalsDisjointRow.holds Tryz.pinned (OpenSpec.ofChange retypeKeepsIntervalsDisjointSpec)

/-- ITS FALSE NEIGHBOUR: 'it returns false'. Refute it at one input. -/
def retypeKeepsIntervalsDisjointWrong : ChangeSpec := { name := "retypeKeepsIntervalsDisjoint", fn := fun _ => fun
  | [d] => { results := [.lit (.bool false)], args := [d] }
  | _ => none }
def RetypeKeepsIntervalsDisjointWrongFalsely : Prop := retypeKeepsIntervalsDisjointRow.holds Tryz.pinned (OpenSpec.ofChange retypeKeepsIntervalsDisjointWrong)

/-- 'objstorelaw.StaleReferencesStayRefused': WHATEVER THE INPUT: true; the input reads as it did. -/
def staleReferencesStayRefusedSpec : ChangeSpec := { name := "staleReferencesStayRefused", fn := fun _ => fun
  | [d] => { results := [.lit (.bool true)], args := [d] }
  | _ => none }
def staleReferencesStayRefusedRow : OpenClaim := { program := "qxb6500847agreatdoor", sum := "d5be2c1e82b8be88a39584ebbdc4b376360fc39b45587d04b35236117cee8611", func := "e2e/objstorelaw.StaleReferencesStayRefused", spec := "staleReferencesStayRefused", inPlace := ["internal/reflectlite.ValueOf", "(internal/reflectlite.Value).Type", "(internal/reflectlite.Value).IsNil", "internal/reflectlite.TypeOf", "(internal/reflectlite.Value).Elem", "(internal/reflectlite.Value).Set", "internal/reflectlite.Swapper", "(internal/reflectlite.Value).Len"], unfollowed := true, recurses := true, named := ["math/bits.deBruijn64tab", "errors.errorType", "e2e/objstore.kinds"], plainKeys := false, apart := false, laid := [("math/bits.deBruijn64tab", laid_math_bits_deBruijn64tab), ("errors.errorType", laid_errors_errorType), ("e2e/objstore.kinds", laid_e2e_objstore_kinds)] }
def StaleReferencesStayRefusedSaid : Prop := staleReferencesStayRefusedRow.holds Tryz.pinned (OpenSpec.ofChange staleReferencesStayRefusedSpec)

/-- ITS FALSE NEIGHBOUR: 'it returns false'. Refute it at one input. -/
def staleReferencesStayRefusedWrong : ChangeSpec := { name := "staleReferencesStayRefused", fn := fun _ => fun
  | [d] => { results := [.lit (.bool false)], args := [d] }
  | _ => none }
def StaleReferencesStayRefusedWrongFalsely : Prop := staleReferencesStayRefusedRow.holds Tryz.pinned (OpenSpec.ofChange staleReferencesStayRefusedWrong)

/-- 'objstorelaw.ImageIsInjective': WHATEVER THE INPUT: true; the input reads as it did. -/
def imageIsInjectiveSpec : ChangeSpec := { name := "imageIsInjective", fn := fun _ => fun
  | [d] => { results := [.lit (.bool true)], args := [d] }
  | _ => none }
def imageIsInjectiveRow : OpenClaim := { program := "qxb6500847agreatdoor", sum := "d5be2c1e82b8be88a39584ebbdc4b376360fc39b45587d04b35236117cee8611", func := "e2e/objstorelaw.ImageIsInjective", spec := "imageIsInjective", inPlace := ["internal/reflectlite.ValueOf", "(internal/reflectlite.Value).Type", "(internal/reflectlite.Value).IsNil", "internal/reflectlite.TypeOf", "(internal/reflectlite.Value).Elem", "(internal/reflectlite.Value).Set", "internal/reflectlite.Swapper", "(internal/reflectlite.Value).Len"], unfollowed := true, recurses := true, named := ["math/bits.deBruijn64tab", "errors.errorType", "e2e/objstore.kinds", "internal/strconv.uint64pow10", "math/bits.deBruijn32tab"], plainKeys := false, apart := false, laid := [("math/bits.deBruijn32tab", laid_math_bits_deBruijn32tab), ("math/bits.deBruijn64tab", laid_math_bits_deBruijn64tab), ("internal/strconv.uint64pow10", laid_internal_strconv_uint64pow10), ("errors.errorType", laid_errors_errorType), ("e2e/objstore.kinds", laid_e2e_objstore_kinds)] }
def ImageIsInjectiveSaid : Prop := imageIsInjectiveRow.holds Tryz.pinned (OpenSpec.ofChange imageIsInjectiveSpec)

/-- ITS FALSE NEIGHBOUR: 'it returns false'. Refute it at one input. -/
def imageIsInjectiveWrong : ChangeSpec := { name := "imageIsInjective", fn := fun _ => fun
  | [d] => { results := [.lit (.bool false)], args := [d] }
  | _ => none }
def ImageIsInjectiveWrongFalsely : Prop := imageIsInjectiveRow.holds Tryz.pinned (OpenSpec.ofChange imageIsInjectiveWrong)

/-- 'objstorelaw.RestoredArenaAnswersAlike': WHATEVER THE INPUT: true; the input reads as it did. -/
def restoredArenaAnswersAlikeSpec : ChangeSpec := { name := "restoredArenaAnswersAlike", fn := fun _ => fun
  | [d] => { results := [.lit (.bool true)], args := [d] }
  | _ => none }
def restoredArenaAnswersAlikeRow : OpenClaim := { program := "qxb6500847agreatdoor", sum := "d5be2c1e82b8be88a39584ebbdc4b376360fc39b45587d04b35236117cee8611", func := "e2e/objstorelaw.RestoredArenaAnswersAlike", spec := "restoredArenaAnswersAlike", inPlace := ["internal/reflectlite.ValueOf", "(internal/reflectlite.Value).Type", "(internal/reflectlite.Value).IsNil", "internal/reflectlite.TypeOf", "(internal/reflectlite.Value).Elem", "(internal/reflectlite.Value).Set", "internal/reflectlite.Swapper", "(internal/reflectlite.Value).Len"], unfollowed := true, recurses := true, named := ["math/bits.deBruijn64tab", "e2e/objstore.kinds", "errors.errorType"], plainKeys := false, apart := false, laid := [("math/bits.deBruijn64tab", laid_math_bits_deBruijn64tab), ("errors.errorType", laid_errors_errorType), ("e2e/objstore.kinds", laid_e2e_objstore_kinds)] }
def RestoredArenaAnswersAlikeSaid : Prop := restoredArenaAnswersAlikeRow.holds Tryz.pinned (OpenSpec.ofChange restoredArenaAnswersAlikeSpec)

/-- ITS FALSE NEIGHBOUR: 'it returns false'. Refute it at one input. -/
def restoredArenaAnswersAlikeWrong : ChangeSpec := { name := "restoredArenaAnswersAlike", fn := fun _ => fun
  | [d] => { results := [.lit (.bool false)], args := [d] }
  | _ => none }
def RestoredArenaAnswersAlikeWrongFalsely : Prop := restoredArenaAnswersAlikeRow.holds Tryz.pinned (OpenSpec.ofChange restoredArenaAnswersAlikeWrong)

/-- 'objstorelaw.RefusalsChangeNothing': WHATEVER THE INPUT: true; the input reads as it did. -/
def refusalsChangeNothingSpec : ChangeSpec := { name := "refusalsChangeNothing", fn := fun _ => fun
  | [d] => { results := [.lit (.bool true)], args := [d] }
  | _ => none }
def refusalsChangeNothingRow : OpenClaim := { program := "qxb6500847agreatdoor", sum := "d5be2c1e82b8be88a39584ebbdc4b376360fc39b45587d04b35236117cee8611", func := "e2e/objstorelaw.RefusalsChangeNothing", spec := "refusalsChangeNothing", inPlace := ["internal/reflectlite.ValueOf", "(internal/reflectlite.Value).Type", "(internal/reflectlite.Value).IsNil", "internal/reflectlite.TypeOf", "(internal/reflectlite.Value).Elem", "(internal/reflectlite.Value).Set", "internal/reflectlite.Swapper", "(internal/reflectlite.Value).Len"], unfollowed := true, recurses := true, named := ["e2e/objstorelaw.readOnly", "math/bits.deBruijn64tab", "e2e/objstore.kinds", "errors.errorType"], plainKeys := false, apart := false, laid := [("math/bits.deBruijn64tab", laid_math_bits_deBruijn64tab), ("errors.errorType", laid_errors_errorType), ("e2e/objstore.kinds", laid_e2e_objstore_kinds), ("e2e/objstorelaw.readOnly", laid_e2e_objstorelaw_readOnly)] }
def RefusalsChangeNothingSaid : Prop := refusalsChangeNothingRow.holds Tryz.pinned (OpenSpec.ofChange refusalsChangeNothingSpec)

/-- ITS FALSE NEIGHBOUR: 'it returns false'. Refute it at one input. -/
def refusalsChangeNothingWrong : ChangeSpec := { name := "refusalsChangeNothing", fn := fun _ => fun
  | [d] => { results := [.lit (.bool false)], args := [d] }
  | _ => none }
def RefusalsChangeNothingWrongFalsely : Prop := refusalsChangeNothingRow.holds Tryz.pinned (OpenSpec.ofChange refusalsChangeNothingWrong)

/-- 'objstorelaw.DiffListsEveryDifference': WHATEVER THE INPUT: true; the input reads as it did. -/
def diffListsEveryDifferenceSpec : ChangeSpec := { name := "diffListsEveryDifference", fn := fun _ => fun
  | [d] => { results := [.lit (.bool true)], args := [d] }
  | _ => none }
def diffListsEveryDifferenceRow : OpenClaim := { program := "qxb6500847agreatdoor", sum := "d5be2c1e82b8be88a39584ebbdc4b376360fc39b45587d04b35236117cee8611", func := "e2e/objstorelaw.DiffListsEveryDifference", spec := "diffListsEveryDifference", inPlace := ["internal/reflectlite.ValueOf", "(internal/reflectlite.Value).Type", "(internal/reflectlite.Value).IsNil", "internal/reflectlite.TypeOf", "(internal/reflectlite.Value).Elem", "(internal/reflectlite.Value).Set", "internal/reflectlite.Swapper", "(internal/reflectlite.Value).Len"], unfollowed := true, recurses := true, named := ["math/bits.deBruijn64tab", "errors.errorType", "e2e/objstore.kinds"], plainKeys := false, apart := false, laid := [("math/bits.deBruijn64tab", laid_math_bits_deBruijn64tab), ("errors.errorType", laid_errors_errorType), ("e2e/objstore.kinds", laid_e2e_objstore_kinds)] }
def DiffListsEveryDifferenceSaid : Prop := diffListsEveryDifferenceRow.holds Tryz.pinned (OpenSpec.ofChange diffListsEveryDifferenceSpec)

/-- ITS FALSE NEIGHBOUR: 'it returns false'. Refute it at one input. -/
def diffListsEveryDifferenceWrong : ChangeSpec := { name := "diffListsEveryDifference", fn := fun _ => fun
  | [d] => { results := [.lit (.bool false)], args := [d] }
  | _ => none }
def DiffListsEveryDifferenceWrongFalsely : Prop := diffListsEveryDifferenceRow.holds Tryz.pinned (OpenSpec.ofChange diffListsEveryDifferenceWrong)

/-- 'objstorelaw.FullListingNeedsTrueFloor': WHATEVER THE INPUT: true; the input reads as it did. -/
def fullListingNeedsTrueFloorSpec : ChangeSpec := { name := "fullListingNeedsTrueFloor", fn := fun _ => fun
  | [] => { results := [.lit (.bool true)], args := [] }
  | _ => none }
def fullListingNeedsTrueFloorRow : OpenClaim := { program := "qxb6500847agreatdoor", sum := "d5be2c1e82b8be88a39584ebbdc4b376360fc39b45587d04b35236117cee8611", func := "e2e/objstorelaw.FullListingNeedsTrueFloor", spec := "fullListingNeedsTrueFloor", inPlace := ["internal/reflectlite.ValueOf", "internal/reflectlite.Swapper", "(internal/reflectlite.Value).Len", "(internal/reflectlite.Value).Type", "(internal/reflectlite.Value).IsNil", "internal/reflectlite.TypeOf", "(internal/reflectlite.Value).Elem", "(internal/reflectlite.Value).Set"], unfollowed := true, recurses := true, named := ["e2e/objstore.kinds", "errors.errorType"], plainKeys := false, apart := false, laid := [("errors.errorType", laid_errors_errorType), ("e2e/objstore.kinds", laid_e2e_objstore_kinds)] }
def FullListingNeedsTrueFloorSaid : Prop := fullListingNeedsTrueFloorRow.holds Tryz.pinned (OpenSpec.ofChange fullListingNeedsTrueFloorSpec)

/-- ITS FALSE NEIGHBOUR: 'it returns false'. Refute it at one input. -/
def fullListingNeedsTrueFloorWrong : ChangeSpec := { name := "fullListingNeedsTrueFloor", fn := fun _ => fun
  | [] => { results := [.lit (.bool false)], args := [] }
  | _ => none }
def FullListingNeedsTrueFloorWrongFalsely : Prop := fullListingNeedsTrueFloorRow.holds Tryz.pinned (OpenSpec.ofChange fullListingNeedsTrueFloorWrong)

end Rows
end Go.Proofs.Qxb6500847aGreatDoor
