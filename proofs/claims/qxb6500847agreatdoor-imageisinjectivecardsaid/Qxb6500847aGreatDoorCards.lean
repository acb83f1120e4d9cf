/-
  DERIVED. GIVEN WITH THE SEED: THE CARDS: each row of Qxb6500847aGreatDoorRows.lean that lists a variable, with what it lists TIED to the program's text (the seventh form; the later family's looks); each row that meets fmt, with fmt's text TOLD by the authors' own Lean function (tested against real Go, not proved from fmt's source: count such statements apart). THE CARD IS WHAT COUNTS. Prove the row's statement (the work); the ties are given (Qxb6500847aGreatDoorTie.lean); close each card by the builder's one call (the guide's Derived/Test/ToyasCard.lean, 'card_holds'). Laid BY PROGRAM, IN A SANDBOX (cutbox-door.mjs). By AI agents, Wed Nov 11 2026. No macro, syntax, notation, axiom, sorry.
-/
import Derived.Test.Qxb6500847aGreatDoorRows
import GoSem.ClaimSeven
namespace Go.Proofs.Qxb6500847aGreatDoor
namespace Rows

/-- THE TIED CARD OF 'objstorelaw.RetypeKeepsIntervalsDisjoint'. -/
def retypeKeepsIntervalsDisjointCard : Claim7 := { stood := { row := retypeKeepsIntervalsDisjointRow, standIns := [], harness := (true, "04045d25b20fc1bfe86da359b3d31eeff1c8be2d96d1c10ce6610b141b8b2682"), looks := true }, kinds := [], alts := [], laidByText := true, laidKinds := [.data, .handle, .data], laidTests := true, laidLooks := .later }
def RetypeKeepsIntervalsDisjointCardSaid : Prop := Claim7.holds Tryz.pinned (.plain (OpenSpec.ofChange retypeKeepsIntervalsDisjointSpec)) retypeKeepsIntervalsDisjointCard

/-- THE TIED CARD OF 'objstorelaw.StaleReferencesStayRefused'. -/
def staleReferencesStayRefusedCard : Claim7 := { stood := { row := staleReferencesStayRefusedRow, standIns := [], harness := (true, "04045d25b20fc1bfe86da359b3d31eeff1c8be2d96d1c10ce6610b141b8b2682"), looks := true }, kinds := [], alts := [], laidByText := true, laidKinds := [.data, .handle, .data], laidTests := true, laidLooks := .later }
def StaleReferencesStayRefusedCardSaid : Prop := Claim7.holds Tryz.pinned (.plain (OpenSpec.ofChange staleReferencesStayRefusedSpec)) staleReferencesStayRefusedCard

/-- THE TIED CARD OF 'objstorelaw.ImageIsInjective'. -/
def imageIsInjectiveCard : Claim7 := { stood := { row := imageIsInjectiveRow, standIns := [], harness := (true, "04045d25b20fc1bfe86da359b3d31eeff1c8be2d96d1c10ce6610b141b8b2682"), looks := true }, kinds := [], alts := [], laidByText := true, laidKinds := [.data, .data, .data, .handle, .data], laidTests := true, laidLooks := .later }
def ImageIsInjectiveCardSaid : Prop := Claim7.holds Tryz.pinned (.plain (OpenSpec.ofChange imageIsInjectiveSpec)) imageIsInjectiveCard

/-- THE TIED CARD OF 'objstorelaw.RestoredArenaAnswersAlike'. -/
def restoredArenaAnswersAlikeCard : Claim7 := { stood := { row := restoredArenaAnswersAlikeRow, standIns := [], harness := (true, "04045d25b20fc1bfe86da359b3d31eeff1c8be2d96d1c10ce6610b141b8b2682"), looks := true }, kinds := [], alts := [], laidByText := true, laidKinds := [.data, .handle, .data], laidTests := true, laidLooks := .later }
def RestoredArenaAnswersAlikeCardSaid : Prop := Claim7.holds Tryz.pinned (.plain (OpenSpec.ofChange restoredArenaAnswersAlikeSpec)) restoredArenaAnswersAlikeCard

/-- THE TIED CARD OF 'objstorelaw.RefusalsChangeNothing'. -/
def refusalsChangeNothingCard : Claim7 := { stood := { row := refusalsChangeNothingRow, standIns := [], harness := (true, "04045d25b20fc1bfe86da359b3d31eeff1c8be2d96d1c10ce6610b141b8b2682"), looks := true }, kinds := [], alts := [], laidByText := true, laidKinds := [.data, .handle, .data, .mapped], laidTests := true, laidLooks := .later }
def RefusalsChangeNothingCardSaid : Prop := Claim7.holds Tryz.pinned (.plain (OpenSpec.ofChange refusalsChangeNothingSpec)) refusalsChangeNothingCard

/-- THE TIED CARD OF 'objstorelaw.DiffListsEveryDifference'. -/
def diffListsEveryDifferenceCard : Claim7 := { stood := { row := diffListsEveryDifferenceRow, standIns := [], harness := (true, "04045d25b20fc1bfe86da359b3d31eeff1c8be2d96d1c10ce6610b141b8b2682"), looks := true }, kinds := [], alts := [], laidByText := true, laidKinds := [.data, .handle, .data], laidTests := true, laidLooks := .later }
def DiffListsEveryDifferenceCardSaid : Prop := Claim7.holds Tryz.pinned (.plain (OpenSpec.ofChange diffListsEveryDifferenceSpec)) diffListsEveryDifferenceCard

/-- THE TIED CARD OF 'objstorelaw.FullListingNeedsTrueFloor'. -/
def fullListingNeedsTrueFloorCard : Claim7 := { stood := { row := fullListingNeedsTrueFloorRow, standIns := [], harness := (true, "04045d25b20fc1bfe86da359b3d31eeff1c8be2d96d1c10ce6610b141b8b2682"), looks := true }, kinds := [], alts := [], laidByText := true, laidKinds := [.handle, .data], laidTests := true, laidLooks := .later }
def FullListingNeedsTrueFloorCardSaid : Prop := Claim7.holds Tryz.pinned (.plain (OpenSpec.ofChange fullListingNeedsTrueFloorSpec)) fullListingNeedsTrueFloorCard
end Rows
end Go.Proofs.Qxb6500847aGreatDoor
