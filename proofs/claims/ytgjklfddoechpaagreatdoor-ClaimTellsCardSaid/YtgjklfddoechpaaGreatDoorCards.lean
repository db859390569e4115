/-
  DERIVED. GIVEN WITH THE SEED: THE CARDS: each row of YtgjklfddoechpaaGreatDoorRows.lean that lists a variable, with what it lists TIED to the program's text (the seventh form; the later family's looks); each row that meets fmt, with fmt's text TOLD by the authors' own Lean function (tested against real Go, not proved from fmt's source: count such statements apart). THE CARD IS WHAT COUNTS. Prove the row's statement (the work); the ties are given (YtgjklfddoechpaaGreatDoorTie.lean); close each card by the builder's one call (the guide's Derived/Test/ToyasCard.lean, 'card_holds'). Laid BY PROGRAM, IN A SANDBOX (cutbox-door.mjs). By AI agents, Wed Nov 11 2026. No macro, syntax, notation, axiom, sorry.
-/
import Derived.Test.YtgjklfddoechpaaGreatDoorRows
import GoSem.ClaimSeven
namespace Go.Proofs.YtgjklfddoechpaaGreatDoor
namespace Rows

/-- THE TIED CARD OF 'bournelaw45.ClaimTells'. -/
def claimTellsCard : Claim7 := { stood := { row := claimTellsRow, standIns := [], harness := (true, "e0e1d91a765ed5373d81e3a4b911b362164e9507f98c6b08124dbb93d6739ccc"), looks := false }, kinds := [], alts := [], laidByText := true, laidKinds := [.data, .data, .data, .pinned], laidTests := true, laidLooks := .later }
def ClaimTellsCardSaid : Prop := Claim7.holds Tryz.pinned (.plain (OpenSpec.ofChange claimTellsSpec)) claimTellsCard

/-- THE TIED CARD OF 'bournelaw45.ClaimSigns'. -/
def claimSignsCard : Claim7 := { stood := { row := claimSignsRow, standIns := [], harness := (true, "e0e1d91a765ed5373d81e3a4b911b362164e9507f98c6b08124dbb93d6739ccc"), looks := false }, kinds := [], alts := [], laidByText := true, laidKinds := [.data, .data, .data, .pinned], laidTests := true, laidLooks := .later }
def ClaimSignsCardSaid : Prop := Claim7.holds Tryz.pinned (.plain (OpenSpec.ofChange claimSignsSpec)) claimSignsCard

/-- THE TIED CARD OF 'bournelaw45.ClaimStores'. -/
def claimStoresCard : Claim7 := { stood := { row := claimStoresRow, standIns := [], harness := (true, "e0e1d91a765ed5373d81e3a4b911b362164e9507f98c6b08124dbb93d6739ccc"), looks := false }, kinds := [], alts := [], laidByText := true, laidKinds := [.data, .data, .data, .pinned], laidTests := true, laidLooks := .later }
def ClaimStoresCardSaid : Prop := Claim7.holds Tryz.pinned (.plain (OpenSpec.ofChange claimStoresSpec)) claimStoresCard

/-- THE SECOND FORM's CARD OF 'bournelaw45.ClaimTells'. -/
def claimTellsUptoCard : Claim7 := { stood := { row := claimTellsUptoRow, standIns := [], harness := (true, "e0e1d91a765ed5373d81e3a4b911b362164e9507f98c6b08124dbb93d6739ccc"), looks := false }, kinds := [], alts := [], laidByText := true, laidKinds := [.data, .data, .data, .pinned], laidTests := true, laidLooks := .later }
def ClaimTellsUptoCardSaid : Prop := Claim7.holds Tryz.pinned (.plain (OpenSpec.upto claimTellsSpec)) claimTellsUptoCard

/-- THE SECOND FORM's CARD OF 'bournelaw45.ClaimSigns'. -/
def claimSignsUptoCard : Claim7 := { stood := { row := claimSignsUptoRow, standIns := [], harness := (true, "e0e1d91a765ed5373d81e3a4b911b362164e9507f98c6b08124dbb93d6739ccc"), looks := false }, kinds := [], alts := [], laidByText := true, laidKinds := [.data, .data, .data, .pinned], laidTests := true, laidLooks := .later }
def ClaimSignsUptoCardSaid : Prop := Claim7.holds Tryz.pinned (.plain (OpenSpec.upto claimSignsSpec)) claimSignsUptoCard

/-- THE SECOND FORM's CARD OF 'bournelaw45.ClaimStores'. -/
def claimStoresUptoCard : Claim7 := { stood := { row := claimStoresUptoRow, standIns := [], harness := (true, "e0e1d91a765ed5373d81e3a4b911b362164e9507f98c6b08124dbb93d6739ccc"), looks := false }, kinds := [], alts := [], laidByText := true, laidKinds := [.data, .data, .data, .pinned], laidTests := true, laidLooks := .later }
def ClaimStoresUptoCardSaid : Prop := Claim7.holds Tryz.pinned (.plain (OpenSpec.upto claimStoresSpec)) claimStoresUptoCard
end Rows
end Go.Proofs.YtgjklfddoechpaaGreatDoor
