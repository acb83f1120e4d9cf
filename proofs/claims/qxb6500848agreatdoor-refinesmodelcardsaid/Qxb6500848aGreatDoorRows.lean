/-
  NARROWER THAN 'FOR EVERY INPUT', by the rows' own cells (each row's printed sentence says how): SameMintermSameDerivative: laid · AntimirovAgrees: laid · FinitelyManyDerivatives: laid · FinitelyManyPartials: laid · MemoChangesNothing: laid · MatchersDecideMembership: laid · RefinesModel: laid.
  DERIVED. THE GIVEN ROWS OF THIS SEAT. 7 by the template 'for every input the law returns true; each argument reads behind the call as it read before'; 0 by the template 'total and deterministic' (their statements: Qxb6500848aGreatDoorTotals.lean).
  GIVEN WITH THE SEED: the statements are not yours to turn. If you find one false, say at which input.
  Laid BY PROGRAM, IN A SANDBOX (cutbox-rows.mjs): the forced cells as the released guide's own fill.sh prints them over the translation 015c13632e7a4a02… (all of the seat's roots in one cut). By AI agents, Wed Nov 11 2026. No macro, syntax, notation, axiom, sorry.
-/
import Derived.Test.Qxb6500848aGreatDoorChecked
import GoSem.Claim
import GoSem.ClaimJoined
import GoSem.ClaimMapViews
import Derived.JoinedTies
import Derived.KernelRfl
namespace Go.Proofs.Qxb6500848aGreatDoor
/- THE CELL 'sum', in the pinned program and in every row, IS THE sha256 OF THE DUMP (.gsa) THAT Qxb6500848aGreatDoorProg.lean LOADS. Nothing in Lean hashes anything: it is a label: what it is worth is what the hold of that sum in a sandbox is worth. -/
noncomputable def Tryz.pinned : Pinned := { name := "qxb6500848agreatdoor", sum := "015c13632e7a4a022401f1130b2f052fb53ee0d1b79335b21a1b8017fa4d1681", checked := Tryz.checked }
namespace Rows
def none {H : Type} : Left H := { results := [], args := [] }

/- WHAT THE LISTED PACKAGE-LEVEL VARIABLES READ AS WHEN THE CALL BEGINS. Each datum BY PROGRAM (the guide's laid-datum.mjs) off the statement by which the dump's own 'gosem.cut.vars' lays the variable. In a bare row this is a premise. The card (Qxb6500848aGreatDoorCards.lean) ties it to the program's text. -/
def laid_math_bits_deBruijn64tab {H : Type} : DataW H := .agg [.lit (.int .u8 0), .lit (.int .u8 1), .lit (.int .u8 56), .lit (.int .u8 2), .lit (.int .u8 57), .lit (.int .u8 49), .lit (.int .u8 28), .lit (.int .u8 3), .lit (.int .u8 61), .lit (.int .u8 58), .lit (.int .u8 42), .lit (.int .u8 50), .lit (.int .u8 38), .lit (.int .u8 29), .lit (.int .u8 17), .lit (.int .u8 4), .lit (.int .u8 62), .lit (.int .u8 47), .lit (.int .u8 59), .lit (.int .u8 36), .lit (.int .u8 45), .lit (.int .u8 43), .lit (.int .u8 51), .lit (.int .u8 22), .lit (.int .u8 53), .lit (.int .u8 39), .lit (.int .u8 33), .lit (.int .u8 30), .lit (.int .u8 24), .lit (.int .u8 18), .lit (.int .u8 12), .lit (.int .u8 5), .lit (.int .u8 63), .lit (.int .u8 55), .lit (.int .u8 48), .lit (.int .u8 27), .lit (.int .u8 60), .lit (.int .u8 41), .lit (.int .u8 37), .lit (.int .u8 16), .lit (.int .u8 46), .lit (.int .u8 35), .lit (.int .u8 44), .lit (.int .u8 21), .lit (.int .u8 52), .lit (.int .u8 32), .lit (.int .u8 23), .lit (.int .u8 11), .lit (.int .u8 54), .lit (.int .u8 26), .lit (.int .u8 40), .lit (.int .u8 15), .lit (.int .u8 34), .lit (.int .u8 20), .lit (.int .u8 31), .lit (.int .u8 10), .lit (.int .u8 25), .lit (.int .u8 14), .lit (.int .u8 19), .lit (.int .u8 9), .lit (.int .u8 13), .lit (.int .u8 8), .lit (.int .u8 7), .lit (.int .u8 6)]
def laid_e2e_regexm_ErrFull {H : Type} : DataW H := .iface "*errors.errorString" (.ptr (.agg [.lit (.string [114, 101, 103, 101, 120, 32, 97, 114, 101, 110, 97, 32, 102, 117, 108, 108])]))
def laid_e2e_deriv_ErrNoBlock {H : Type} : DataW H := .iface "*errors.errorString" (.ptr (.agg [.lit (.string [100, 101, 114, 105, 118, 58, 32, 110, 111, 32, 109, 105, 110, 116, 101, 114, 109, 32, 111, 102, 32, 116, 104, 97, 116, 32, 110, 117, 109, 98, 101, 114])]))
def laid_e2e_deriv_ErrNotPlain {H : Type} : DataW H := .iface "*errors.errorString" (.ptr (.agg [.lit (.string [100, 101, 114, 105, 118, 58, 32, 112, 97, 114, 116, 105, 97, 108, 32, 100, 101, 114, 105, 118, 97, 116, 105, 118, 101, 115, 32, 110, 101, 101, 100, 32, 97, 32, 114, 101, 103, 101, 120, 32, 119, 105, 116, 104, 111, 117, 116, 32, 99, 111, 109, 112, 108, 101, 109, 101, 110, 116, 32, 97, 110, 100, 32, 105, 110, 116, 101, 114, 115, 101, 99, 116, 105, 111, 110])]))

/-- 'derivlaw.SameMintermSameDerivative': WHATEVER THE INPUT: true; the input reads as it did. -/
def sameMintermSameDerivativeSpec : ChangeSpec := { name := "sameMintermSameDerivative", fn := fun _ => fun
  | [d] => { results := [.lit (.bool true)], args := [d] }
  | _ => none }
def sameMintermSameDerivativeRow : OpenClaim := { program := "qxb6500848agreatdoor", sum := "015c13632e7a4a022401f1130b2f052fb53ee0d1b79335b21a1b8017fa4d1681", func := "e2e/derivlaw.SameMintermSameDerivative", spec := "sameMintermSameDerivative", inPlace := ["internal/reflectlite.TypeOf"], unfollowed := true, recurses := true, named := ["e2e/deriv.ErrNoBlock", "e2e/regexm.ErrFull", "math/bits.deBruijn64tab"], plainKeys := false, apart := false, laid := [("math/bits.deBruijn64tab", laid_math_bits_deBruijn64tab), ("e2e/regexm.ErrFull", laid_e2e_regexm_ErrFull), ("e2e/deriv.ErrNoBlock", laid_e2e_deriv_ErrNoBlock)] }
def SameMintermSameDerivativeSaid : Prop := sameMintermSameDerivativeRow.holds Tryz.pinned (OpenSpec.ofChange sameMintermSameDerivativeSpec)

/-- ITS FALSE NEIGHBOUR: 'it returns false'. Refute it at one input. -/
def sameMintermSameDerivativeWrong : ChangeSpec := { name := "sameMintermSameDerivative", fn := fun _ => fun
  | [d] => { results := [.lit (.bool false)], args := [d] }
  | _ => none }
def SameMintermSameDerivativeWrongFalsely : Prop := sameMintermSameDerivativeRow.holds Tryz.pinned (OpenSpec.ofChange sameMintermSameDerivativeWrong)

/-- 'derivlaw.AntimirovAgrees': WHATEVER THE INPUT: true; the input reads as it did. -/
def antimirovAgreesSpec : ChangeSpec := { name := "antimirovAgrees", fn := fun _ => fun
  | [d] => { results := [.lit (.bool true)], args := [d] }
  | _ => none }
def antimirovAgreesRow : OpenClaim := { program := "qxb6500848agreatdoor", sum := "015c13632e7a4a022401f1130b2f052fb53ee0d1b79335b21a1b8017fa4d1681", func := "e2e/derivlaw.AntimirovAgrees", spec := "antimirovAgrees", inPlace := ["internal/reflectlite.TypeOf"], unfollowed := true, recurses := true, named := ["e2e/regexm.ErrFull", "e2e/deriv.ErrNotPlain", "math/bits.deBruijn64tab"], plainKeys := false, apart := false, laid := [("math/bits.deBruijn64tab", laid_math_bits_deBruijn64tab), ("e2e/regexm.ErrFull", laid_e2e_regexm_ErrFull), ("e2e/deriv.ErrNotPlain", laid_e2e_deriv_ErrNotPlain)] }
def AntimirovAgreesSaid : Prop := antimirovAgreesRow.holds Tryz.pinned (OpenSpec.ofChange antimirovAgreesSpec)

/-- ITS FALSE NEIGHBOUR: 'it returns false'. Refute it at one input. -/
def antimirovAgreesWrong : ChangeSpec := { name := "antimirovAgrees", fn := fun _ => fun
  | [d] => { results := [.lit (.bool false)], args := [d] }
  | _ => none }
def AntimirovAgreesWrongFalsely : Prop := antimirovAgreesRow.holds Tryz.pinned (OpenSpec.ofChange antimirovAgreesWrong)

/-- 'derivlaw.FinitelyManyDerivatives': WHATEVER THE INPUT: true; the input reads as it did. -/
def finitelyManyDerivativesSpec : ChangeSpec := { name := "finitelyManyDerivatives", fn := fun _ => fun
  | [d] => { results := [.lit (.bool true)], args := [d] }
  | _ => none }
def finitelyManyDerivativesRow : OpenClaim := { program := "qxb6500848agreatdoor", sum := "015c13632e7a4a022401f1130b2f052fb53ee0d1b79335b21a1b8017fa4d1681", func := "e2e/derivlaw.FinitelyManyDerivatives", spec := "finitelyManyDerivatives", unfollowed := true, recurses := true, named := ["e2e/regexm.ErrFull", "math/bits.deBruijn64tab"], plainKeys := false, apart := false, laid := [("math/bits.deBruijn64tab", laid_math_bits_deBruijn64tab), ("e2e/regexm.ErrFull", laid_e2e_regexm_ErrFull)] }
def FinitelyManyDerivativesSaid : Prop := finitelyManyDerivativesRow.holds Tryz.pinned (OpenSpec.ofChange finitelyManyDerivativesSpec)

/-- ITS FALSE NEIGHBOUR: 'it returns false'. Refute it at one input. -/
def finitelyManyDerivativesWrong : ChangeSpec := { name := "finitelyManyDerivatives", fn := fun _ => fun
  | [d] => { results := [.lit (.bool false)], args := [d] }
  | _ => none }
def FinitelyManyDerivativesWrongFalsely : Prop := finitelyManyDerivativesRow.holds Tryz.pinned (OpenSpec.ofChange finitelyManyDerivativesWrong)

/-- 'derivlaw.FinitelyManyPartials': WHATEVER THE INPUT: true; the input reads as it did. -/
def finitelyManyPartialsSpec : ChangeSpec := { name := "finitelyManyPartials", fn := fun _ => fun
  | [d] => { results := [.lit (.bool true)], args := [d] }
  | _ => none }
def finitelyManyPartialsRow : OpenClaim := { program := "qxb6500848agreatdoor", sum := "015c13632e7a4a022401f1130b2f052fb53ee0d1b79335b21a1b8017fa4d1681", func := "e2e/derivlaw.FinitelyManyPartials", spec := "finitelyManyPartials", unfollowed := true, recurses := true, named := ["e2e/regexm.ErrFull", "math/bits.deBruijn64tab", "e2e/deriv.ErrNotPlain"], plainKeys := false, apart := false, laid := [("math/bits.deBruijn64tab", laid_math_bits_deBruijn64tab), ("e2e/regexm.ErrFull", laid_e2e_regexm_ErrFull), ("e2e/deriv.ErrNotPlain", laid_e2e_deriv_ErrNotPlain)] }
def FinitelyManyPartialsSaid : Prop := finitelyManyPartialsRow.holds Tryz.pinned (OpenSpec.ofChange finitelyManyPartialsSpec)

/-- ITS FALSE NEIGHBOUR: 'it returns false'. Refute it at one input. -/
def finitelyManyPartialsWrong : ChangeSpec := { name := "finitelyManyPartials", fn := fun _ => fun
  | [d] => { results := [.lit (.bool false)], args := [d] }
  | _ => none }
def FinitelyManyPartialsWrongFalsely : Prop := finitelyManyPartialsRow.holds Tryz.pinned (OpenSpec.ofChange finitelyManyPartialsWrong)

/-- 'derivlaw.MemoChangesNothing': WHATEVER THE INPUT: true; the input reads as it did. -/
def memoChangesNothingSpec : ChangeSpec := { name := "memoChangesNothing", fn := fun _ => fun
  | [d] => { results := [.lit (.bool true)], args := [d] }
  | _ => none }
def memoChangesNothingRow : OpenClaim := { program := "qxb6500848agreatdoor", sum := "015c13632e7a4a022401f1130b2f052fb53ee0d1b79335b21a1b8017fa4d1681", func := "e2e/derivlaw.MemoChangesNothing", spec := "memoChangesNothing", inPlace := ["internal/reflectlite.TypeOf"], unfollowed := true, recurses := true, named := ["e2e/deriv.ErrNotPlain", "e2e/regexm.ErrFull", "math/bits.deBruijn64tab"], plainKeys := false, apart := false, laid := [("math/bits.deBruijn64tab", laid_math_bits_deBruijn64tab), ("e2e/regexm.ErrFull", laid_e2e_regexm_ErrFull), ("e2e/deriv.ErrNotPlain", laid_e2e_deriv_ErrNotPlain)] }
def MemoChangesNothingSaid : Prop := memoChangesNothingRow.holds Tryz.pinned (OpenSpec.ofChange memoChangesNothingSpec)

/-- ITS FALSE NEIGHBOUR: 'it returns false'. Refute it at one input. -/
def memoChangesNothingWrong : ChangeSpec := { name := "memoChangesNothing", fn := fun _ => fun
  | [d] => { results := [.lit (.bool false)], args := [d] }
  | _ => none }
def MemoChangesNothingWrongFalsely : Prop := memoChangesNothingRow.holds Tryz.pinned (OpenSpec.ofChange memoChangesNothingWrong)

/-- 'derivlaw.MatchersDecideMembership': WHATEVER THE INPUT: true; the input reads as it did. -/
def matchersDecideMembershipSpec : ChangeSpec := { name := "matchersDecideMembership", fn := fun _ => fun
  | [d] => { results := [.lit (.bool true)], args := [d] }
  | _ => none }
def matchersDecideMembershipRow : OpenClaim := { program := "qxb6500848agreatdoor", sum := "015c13632e7a4a022401f1130b2f052fb53ee0d1b79335b21a1b8017fa4d1681", func := "e2e/derivlaw.MatchersDecideMembership", spec := "matchersDecideMembership", unfollowed := true, recurses := true, named := ["e2e/regexm.ErrFull", "math/bits.deBruijn64tab", "e2e/deriv.ErrNotPlain"], plainKeys := false, apart := false, laid := [("math/bits.deBruijn64tab", laid_math_bits_deBruijn64tab), ("e2e/regexm.ErrFull", laid_e2e_regexm_ErrFull), ("e2e/deriv.ErrNotPlain", laid_e2e_deriv_ErrNotPlain)] }
def MatchersDecideMembershipSaid : Prop := matchersDecideMembershipRow.holds Tryz.pinned (OpenSpec.ofChange matchersDecideMembershipSpec)

/-- ITS FALSE NEIGHBOUR: 'it returns false'. Refute it at one input. -/
def matchersDecideMembershipWrong : ChangeSpec := { name := "matchersDecideMembership", fn := fun _ => fun
  | [d] => { results := [.lit (.bool false)], args := [d] }
  | _ => none }
def MatchersDecideMembershipWrongFalsely : Prop := matchersDecideMembershipRow.holds Tryz.pinned (OpenSpec.ofChange matchersDecideMembershipWrong)

/-- 'derivlaw.RefinesModel': WHATEVER THE INPUT: true; the input reads as it did. -/
def refinesModelSpec : ChangeSpec := { name := "refinesModel", fn := fun _ => fun
  | [d] => { results := [.lit (.bool true)], args := [d] }
  | _ => none }
def refinesModelRow : OpenClaim := { program := "qxb6500848agreatdoor", sum := "015c13632e7a4a022401f1130b2f052fb53ee0d1b79335b21a1b8017fa4d1681", func := "e2e/derivlaw.RefinesModel", spec := "refinesModel", inPlace := ["internal/reflectlite.TypeOf"], unfollowed := true, recurses := true, named := ["e2e/regexm.ErrFull", "e2e/deriv.ErrNotPlain", "math/bits.deBruijn64tab", "e2e/deriv.ErrNoBlock"], plainKeys := false, apart := false, laid := [("math/bits.deBruijn64tab", laid_math_bits_deBruijn64tab), ("e2e/regexm.ErrFull", laid_e2e_regexm_ErrFull), ("e2e/deriv.ErrNotPlain", laid_e2e_deriv_ErrNotPlain), ("e2e/deriv.ErrNoBlock", laid_e2e_deriv_ErrNoBlock)] }
def RefinesModelSaid : Prop := refinesModelRow.holds Tryz.pinned (OpenSpec.ofChange refinesModelSpec)

/-- ITS FALSE NEIGHBOUR: 'it returns false'. Refute it at one input. -/
def refinesModelWrong : ChangeSpec := { name := "refinesModel", fn := fun _ => fun
  | [d] => { results := [.lit (.bool false)], args := [d] }
  | _ => none }
def RefinesModelWrongFalsely : Prop := refinesModelRow.holds Tryz.pinned (OpenSpec.ofChange refinesModelWrong)

end Rows
end Go.Proofs.Qxb6500848aGreatDoor
