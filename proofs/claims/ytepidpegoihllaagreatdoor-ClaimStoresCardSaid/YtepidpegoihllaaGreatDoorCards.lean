/-
  DERIVED. GIVEN WITH THE SEED: THE CARDS: each row of YtepidpegoihllaaGreatDoorRows.lean that lists a variable, with what it lists TIED to the program's text (the seventh form; the later family's looks); each row that meets fmt, with fmt's text TOLD by the authors' own Lean function (tested against real Go, not proved from fmt's source: count such statements apart). THE CARD IS WHAT COUNTS. Prove the row's statement (the work); the ties are given (YtepidpegoihllaaGreatDoorTie.lean); close each card by the builder's one call (the guide's Derived/Test/ToyasCard.lean, 'card_holds'). Laid BY PROGRAM, IN A SANDBOX (cutbox-door.mjs). By AI agents, Wed Nov 11 2026. No macro, syntax, notation, axiom, sorry.
-/
import Derived.Test.YtepidpegoihllaaGreatDoorRows
import GoSem.ClaimSeven
namespace Go.Proofs.YtepidpegoihllaaGreatDoor
namespace Rows

/-- THE TIED CARD OF 'bournelaw45.ClaimStores'. -/
def claimStoresCard : Claim7 := { stood := { row := claimStoresRow, standIns := [], harness := (true, "1e57adfc813c9672e148136afe970f63802932fa2449f6bce1e89bd0da54b959"), looks := false }, kinds := [], alts := [], laidByText := true, laidKinds := [.data, .data, .data, .pinned], laidTests := true, laidLooks := .later }
def ClaimStoresCardSaid : Prop := Claim7.holds Tryz.pinned (.plain (OpenSpec.ofChange claimStoresSpec)) claimStoresCard

/-- THE SECOND FORM's CARD OF 'bournelaw45.ClaimStores'. -/
def claimStoresUptoCard : Claim7 := { stood := { row := claimStoresUptoRow, standIns := [], harness := (true, "1e57adfc813c9672e148136afe970f63802932fa2449f6bce1e89bd0da54b959"), looks := false }, kinds := [], alts := [], laidByText := true, laidKinds := [.data, .data, .data, .pinned], laidTests := true, laidLooks := .later }
def ClaimStoresUptoCardSaid : Prop := Claim7.holds Tryz.pinned (.plain (OpenSpec.upto claimStoresSpec)) claimStoresUptoCard
end Rows
end Go.Proofs.YtepidpegoihllaaGreatDoor
