/-
  No cell of these rows narrows 'for every input' (looked for: loops, veiled, ifaces, maps, wideKeys, modest, calm, conditions, laid).
  DERIVED. THE GIVEN ROWS OF THIS SEAT. 2 by the template 'for every input the law returns true; each argument reads behind the call as it read before'; 0 by the template 'total and deterministic' (their statements: Qxb6500852aTotals.lean).
  GIVEN WITH THE SEED: the statements are not yours to turn. If you find one false, say at which input.
  Laid BY PROGRAM, IN A SANDBOX (cutbox-rows.mjs): the forced cells as the released guide's own fill.sh prints them over the translation 15ff7415cc2af3be… (all of the seat's roots in one cut). By AI agents, Wed Nov 11 2026. No macro, syntax, notation, axiom, sorry.
-/
import Derived.Test.Qxb6500852aChecked
import GoSem.Claim
import GoSem.ClaimJoined
import GoSem.ClaimMapViews
import Derived.JoinedTies
import Derived.KernelRfl
namespace Go.Proofs.Qxb6500852a
/- THE CELL 'sum', in the pinned program and in every row, IS THE sha256 OF THE DUMP (.gsa) THAT Qxb6500852aProg.lean LOADS. Nothing in Lean hashes anything: it is a label: what it is worth is what the hold of that sum in a sandbox is worth. -/
noncomputable def Try.pinned : Pinned := { name := "qxb6500852a", sum := "15ff7415cc2af3be235e7a51321e63d1d44d8b75152dd08daed3539e11ccfc9a", checked := Try.checked }
namespace Rows
def none {H : Type} : Left H := { results := [], args := [] }

/-- 'unitablaw.HangulIsIdentityOutsideOnScript': WHATEVER THE INPUT: true; the input reads as it did. -/
def hangulIsIdentityOutsideOnScriptSpec : ChangeSpec := { name := "hangulIsIdentityOutsideOnScript", fn := fun _ => fun
  | [d] => { results := [.lit (.bool true)], args := [d] }
  | _ => none }
def hangulIsIdentityOutsideOnScriptRow : OpenClaim := { program := "qxb6500852a", sum := "15ff7415cc2af3be235e7a51321e63d1d44d8b75152dd08daed3539e11ccfc9a", func := "e2e/unitablaw.HangulIsIdentityOutsideOnScript", spec := "hangulIsIdentityOutsideOnScript", apart := false }
def HangulIsIdentityOutsideOnScriptSaid : Prop := hangulIsIdentityOutsideOnScriptRow.holds Try.pinned (OpenSpec.ofChange hangulIsIdentityOutsideOnScriptSpec)

/-- ITS FALSE NEIGHBOUR: 'it returns false'. Refute it at one input. -/
def hangulIsIdentityOutsideOnScriptWrong : ChangeSpec := { name := "hangulIsIdentityOutsideOnScript", fn := fun _ => fun
  | [d] => { results := [.lit (.bool false)], args := [d] }
  | _ => none }
def HangulIsIdentityOutsideOnScriptWrongFalsely : Prop := hangulIsIdentityOutsideOnScriptRow.holds Try.pinned (OpenSpec.ofChange hangulIsIdentityOutsideOnScriptWrong)

/-- 'unitablaw.HangulIsIdentityOutside': WHATEVER THE INPUT: true; the input reads as it did. -/
def hangulIsIdentityOutsideSpec : ChangeSpec := { name := "hangulIsIdentityOutside", fn := fun _ => fun
  | [] => { results := [.lit (.bool true)], args := [] }
  | _ => none }
def hangulIsIdentityOutsideRow : OpenClaim := { program := "qxb6500852a", sum := "15ff7415cc2af3be235e7a51321e63d1d44d8b75152dd08daed3539e11ccfc9a", func := "e2e/unitablaw.HangulIsIdentityOutside", spec := "hangulIsIdentityOutside", apart := false }
def HangulIsIdentityOutsideSaid : Prop := hangulIsIdentityOutsideRow.holds Try.pinned (OpenSpec.ofChange hangulIsIdentityOutsideSpec)

/-- ITS FALSE NEIGHBOUR: 'it returns false'. Refute it at one input. -/
def hangulIsIdentityOutsideWrong : ChangeSpec := { name := "hangulIsIdentityOutside", fn := fun _ => fun
  | [] => { results := [.lit (.bool false)], args := [] }
  | _ => none }
def HangulIsIdentityOutsideWrongFalsely : Prop := hangulIsIdentityOutsideRow.holds Try.pinned (OpenSpec.ofChange hangulIsIdentityOutsideWrong)

end Rows
end Go.Proofs.Qxb6500852a
