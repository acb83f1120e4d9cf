/-
  DERIVED. GIVEN WITH THE SEED: THE CARDS: each row of Qxb6500848aDoorRows.lean that lists a variable, with what it lists TIED to the program's text (the seventh form; the later family's looks); each row that meets fmt, with fmt's text TOLD by the authors' own Lean function (tested against real Go, not proved from fmt's source: count such statements apart). THE CARD IS WHAT COUNTS. Prove the row's statement (the work); the ties are given (Qxb6500848aDoorTie.lean); close each card by the builder's one call (the guide's Derived/Test/ToyasCard.lean, 'card_holds'). Laid BY PROGRAM, IN A SANDBOX (cutbox-door.mjs). By AI agents, Wed Nov 11 2026. No macro, syntax, notation, axiom, sorry.
-/
import Derived.Test.Qxb6500848aDoorRows
import GoSem.ClaimSeven
namespace Go.Proofs.Qxb6500848aDoor
namespace Rows

/-- THE TIED CARD OF 'derivlaw.DerivativeIsQuotient'. -/
def derivativeIsQuotientCard : Claim7 := { stood := { row := derivativeIsQuotientRow, standIns := [], harness := (true, "20cc7b757625a3d23bd7c01d3d67641841ad2a2cf51086a30286bb270342d72e"), looks := false }, kinds := [], alts := [], laidByText := true, laidKinds := [.data, .sentinel], laidTests := true, laidLooks := .later }
def DerivativeIsQuotientCardSaid : Prop := Claim7.holds Tryd.pinned (.plain (OpenSpec.ofChange derivativeIsQuotientSpec)) derivativeIsQuotientCard
end Rows
end Go.Proofs.Qxb6500848aDoor
