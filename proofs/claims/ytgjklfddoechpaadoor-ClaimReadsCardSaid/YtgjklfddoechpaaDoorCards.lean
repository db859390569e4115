/-
  DERIVED. GIVEN WITH THE SEED: THE CARDS: each row of YtgjklfddoechpaaDoorRows.lean that lists a variable, with what it lists TIED to the program's text (the seventh form; the later family's looks); each row that meets fmt, with fmt's text TOLD by the authors' own Lean function (tested against real Go, not proved from fmt's source: count such statements apart). THE CARD IS WHAT COUNTS. Prove the row's statement (the work); the ties are given (YtgjklfddoechpaaDoorTie.lean); close each card by the builder's one call (the guide's Derived/Test/ToyasCard.lean, 'card_holds'). Laid BY PROGRAM, IN A SANDBOX (cutbox-door.mjs). By AI agents, Wed Nov 11 2026. No macro, syntax, notation, axiom, sorry.
-/
import Derived.Test.YtgjklfddoechpaaDoorRows
import GoSem.ClaimSeven
namespace Go.Proofs.YtgjklfddoechpaaDoor
namespace Rows

/-- THE TIED CARD OF 'bournelaw45.ClaimReads'. -/
def claimReadsCard : Claim7 := { stood := { row := claimReadsRow, standIns := [], harness := (true, "6f416c628ffe3fb54abfeb768ac09243c7f881326f843a2b6286b2f58139fbe1"), looks := false }, kinds := [], alts := [], laidByText := true, laidKinds := [.data, .data, .data, .pinned], laidTests := true, laidLooks := .later }
def ClaimReadsCardSaid : Prop := Claim7.holds Tryd.pinned (.plain (OpenSpec.ofChange claimReadsSpec)) claimReadsCard

/-- THE TIED CARD OF 'bournelaw45.ClaimChains'. -/
def claimChainsCard : Claim7 := { stood := { row := claimChainsRow, standIns := [], harness := (true, "6f416c628ffe3fb54abfeb768ac09243c7f881326f843a2b6286b2f58139fbe1"), looks := false }, kinds := [], alts := [], laidByText := true, laidKinds := [.data, .data, .data, .pinned], laidTests := true, laidLooks := .later }
def ClaimChainsCardSaid : Prop := Claim7.holds Tryd.pinned (.plain (OpenSpec.ofChange claimChainsSpec)) claimChainsCard

/-- THE SECOND FORM's CARD OF 'bournelaw45.ClaimReads'. -/
def claimReadsUptoCard : Claim7 := { stood := { row := claimReadsUptoRow, standIns := [], harness := (true, "6f416c628ffe3fb54abfeb768ac09243c7f881326f843a2b6286b2f58139fbe1"), looks := false }, kinds := [], alts := [], laidByText := true, laidKinds := [.data, .data, .data, .pinned], laidTests := true, laidLooks := .later }
def ClaimReadsUptoCardSaid : Prop := Claim7.holds Tryd.pinned (.plain (OpenSpec.upto claimReadsSpec)) claimReadsUptoCard

/-- THE SECOND FORM's CARD OF 'bournelaw45.ClaimChains'. -/
def claimChainsUptoCard : Claim7 := { stood := { row := claimChainsUptoRow, standIns := [], harness := (true, "6f416c628ffe3fb54abfeb768ac09243c7f881326f843a2b6286b2f58139fbe1"), looks := false }, kinds := [], alts := [], laidByText := true, laidKinds := [.data, .data, .data, .pinned], laidTests := true, laidLooks := .later }
def ClaimChainsUptoCardSaid : Prop := Claim7.holds Tryd.pinned (.plain (OpenSpec.upto claimChainsSpec)) claimChainsUptoCard
end Rows
end Go.Proofs.YtgjklfddoechpaaDoor
