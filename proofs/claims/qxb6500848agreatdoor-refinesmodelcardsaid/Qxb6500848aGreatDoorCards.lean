/-
  DERIVED. GIVEN WITH THE SEED: THE CARDS: each row of Qxb6500848aGreatDoorRows.lean that lists a variable, with what it lists TIED to the program's text (the seventh form; the later family's looks); each row that meets fmt, with fmt's text TOLD by the authors' own Lean function (tested against real Go, not proved from fmt's source: count such statements apart). THE CARD IS WHAT COUNTS. Prove the row's statement (the work); the ties are given (Qxb6500848aGreatDoorTie.lean); close each card by the builder's one call (the guide's Derived/Test/ToyasCard.lean, 'card_holds'). Laid BY PROGRAM, IN A SANDBOX (cutbox-door.mjs). By AI agents, Wed Nov 11 2026. No macro, syntax, notation, axiom, sorry.
-/
import Derived.Test.Qxb6500848aGreatDoorRows
import GoSem.ClaimSeven
namespace Go.Proofs.Qxb6500848aGreatDoor
namespace Rows

/-- THE TIED CARD OF 'derivlaw.SameMintermSameDerivative'. -/
def sameMintermSameDerivativeCard : Claim7 := { stood := { row := sameMintermSameDerivativeRow, standIns := [], harness := (true, "449f7d0b962cb8cbaed0089ba565912b3686f41a9c496f8d619a218d238ebdd0"), looks := true }, kinds := [], alts := [], laidByText := true, laidKinds := [.data, .sentinel, .sentinel], laidTests := true, laidLooks := .later }
def SameMintermSameDerivativeCardSaid : Prop := Claim7.holds Tryz.pinned (.plain (OpenSpec.ofChange sameMintermSameDerivativeSpec)) sameMintermSameDerivativeCard

/-- THE TIED CARD OF 'derivlaw.AntimirovAgrees'. -/
def antimirovAgreesCard : Claim7 := { stood := { row := antimirovAgreesRow, standIns := [], harness := (true, "449f7d0b962cb8cbaed0089ba565912b3686f41a9c496f8d619a218d238ebdd0"), looks := true }, kinds := [], alts := [], laidByText := true, laidKinds := [.data, .sentinel, .sentinel], laidTests := true, laidLooks := .later }
def AntimirovAgreesCardSaid : Prop := Claim7.holds Tryz.pinned (.plain (OpenSpec.ofChange antimirovAgreesSpec)) antimirovAgreesCard

/-- THE TIED CARD OF 'derivlaw.FinitelyManyDerivatives'. -/
def finitelyManyDerivativesCard : Claim7 := { stood := { row := finitelyManyDerivativesRow, standIns := [], harness := (true, "449f7d0b962cb8cbaed0089ba565912b3686f41a9c496f8d619a218d238ebdd0"), looks := true }, kinds := [], alts := [], laidByText := true, laidKinds := [.data, .sentinel], laidTests := true, laidLooks := .later }
def FinitelyManyDerivativesCardSaid : Prop := Claim7.holds Tryz.pinned (.plain (OpenSpec.ofChange finitelyManyDerivativesSpec)) finitelyManyDerivativesCard

/-- THE TIED CARD OF 'derivlaw.FinitelyManyPartials'. -/
def finitelyManyPartialsCard : Claim7 := { stood := { row := finitelyManyPartialsRow, standIns := [], harness := (true, "449f7d0b962cb8cbaed0089ba565912b3686f41a9c496f8d619a218d238ebdd0"), looks := true }, kinds := [], alts := [], laidByText := true, laidKinds := [.data, .sentinel, .sentinel], laidTests := true, laidLooks := .later }
def FinitelyManyPartialsCardSaid : Prop := Claim7.holds Tryz.pinned (.plain (OpenSpec.ofChange finitelyManyPartialsSpec)) finitelyManyPartialsCard

/-- THE TIED CARD OF 'derivlaw.MemoChangesNothing'. -/
def memoChangesNothingCard : Claim7 := { stood := { row := memoChangesNothingRow, standIns := [], harness := (true, "449f7d0b962cb8cbaed0089ba565912b3686f41a9c496f8d619a218d238ebdd0"), looks := true }, kinds := [], alts := [], laidByText := true, laidKinds := [.data, .sentinel, .sentinel], laidTests := true, laidLooks := .later }
def MemoChangesNothingCardSaid : Prop := Claim7.holds Tryz.pinned (.plain (OpenSpec.ofChange memoChangesNothingSpec)) memoChangesNothingCard

/-- THE TIED CARD OF 'derivlaw.MatchersDecideMembership'. -/
def matchersDecideMembershipCard : Claim7 := { stood := { row := matchersDecideMembershipRow, standIns := [], harness := (true, "449f7d0b962cb8cbaed0089ba565912b3686f41a9c496f8d619a218d238ebdd0"), looks := true }, kinds := [], alts := [], laidByText := true, laidKinds := [.data, .sentinel, .sentinel], laidTests := true, laidLooks := .later }
def MatchersDecideMembershipCardSaid : Prop := Claim7.holds Tryz.pinned (.plain (OpenSpec.ofChange matchersDecideMembershipSpec)) matchersDecideMembershipCard

/-- THE TIED CARD OF 'derivlaw.RefinesModel'. -/
def refinesModelCard : Claim7 := { stood := { row := refinesModelRow, standIns := [], harness := (true, "449f7d0b962cb8cbaed0089ba565912b3686f41a9c496f8d619a218d238ebdd0"), looks := true }, kinds := [], alts := [], laidByText := true, laidKinds := [.data, .sentinel, .sentinel, .sentinel], laidTests := true, laidLooks := .later }
def RefinesModelCardSaid : Prop := Claim7.holds Tryz.pinned (.plain (OpenSpec.ofChange refinesModelSpec)) refinesModelCard
end Rows
end Go.Proofs.Qxb6500848aGreatDoor
