/-
  No cell of these rows narrows 'for every input' (looked for: loops, veiled, ifaces, maps, wideKeys, modest, calm, conditions, laid).
  DERIVED. THE GIVEN ROWS OF THIS SEAT. 1 by the template 'for every input the law returns true; each argument reads behind the call as it read before'; 0 by the template 'total and deterministic' (their statements: Qxb6500855aTotals.lean).
  GIVEN WITH THE SEED: the statements are not yours to turn. If you find one false, say at which input.
  Laid BY PROGRAM, IN A SANDBOX (cutbox-rows.mjs): the forced cells as the released guide's own fill.sh prints them over the translation 255e910889ab8c3b… (all of the seat's roots in one cut). By AI agents, Wed Nov 11 2026. No macro, syntax, notation, axiom, sorry.
-/
import Derived.Test.Qxb6500855aChecked
import GoSem.Claim
import GoSem.ClaimJoined
import GoSem.ClaimMapViews
import Derived.JoinedTies
import Derived.KernelRfl
namespace Go.Proofs.Qxb6500855a
/- THE CELL 'sum', in the pinned program and in every row, IS THE sha256 OF THE DUMP (.gsa) THAT Qxb6500855aProg.lean LOADS. Nothing in Lean hashes anything: it is a label: what it is worth is what the hold of that sum in a sandbox is worth. -/
noncomputable def Try.pinned : Pinned := { name := "qxb6500855a", sum := "255e910889ab8c3b9bf840cae76314f51577384c95a13d352b41eb037f4ed05c", checked := Try.checked }
namespace Rows
def none {H : Type} : Left H := { results := [], args := [] }

/-- 'gatelaw.IterationEnds': WHATEVER THE INPUT: true; the input reads as it did. -/
def iterationEndsSpec : ChangeSpec := { name := "iterationEnds", fn := fun _ => fun
  | [d] => { results := [.lit (.bool true)], args := [d] }
  | _ => none }
def iterationEndsRow : OpenClaim := { program := "qxb6500855a", sum := "255e910889ab8c3b9bf840cae76314f51577384c95a13d352b41eb037f4ed05c", func := "e2e/gatelaw.IterationEnds", spec := "iterationEnds", unfollowed := true, recurses := true, apart := false }
def IterationEndsSaid : Prop := iterationEndsRow.holds Try.pinned (OpenSpec.ofChange iterationEndsSpec)

/-- ITS FALSE NEIGHBOUR: 'it returns false'. Refute it at one input. -/
def iterationEndsWrong : ChangeSpec := { name := "iterationEnds", fn := fun _ => fun
  | [d] => { results := [.lit (.bool false)], args := [d] }
  | _ => none }
def IterationEndsWrongFalsely : Prop := iterationEndsRow.holds Try.pinned (OpenSpec.ofChange iterationEndsWrong)

end Rows
end Go.Proofs.Qxb6500855a
