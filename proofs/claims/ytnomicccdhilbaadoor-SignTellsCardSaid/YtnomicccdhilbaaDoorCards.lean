/-
  DERIVED. GIVEN WITH THE SEED: THE CARDS: each row of YtnomicccdhilbaaDoorRows.lean that lists a variable, with what it lists TIED to the program's text (the seventh form; the later family's looks); each row that meets fmt, with fmt's text TOLD by the authors' own Lean function (tested against real Go, not proved from fmt's source: count such statements apart). THE CARD IS WHAT COUNTS. Prove the row's statement (the work); the ties are given (YtnomicccdhilbaaDoorTie.lean); close each card by the builder's one call (the guide's Derived/Test/ToyasCard.lean, 'card_holds'). Laid BY PROGRAM, IN A SANDBOX (cutbox-door.mjs). By AI agents, Wed Nov 11 2026. No macro, syntax, notation, axiom, sorry.
-/
import Derived.Test.YtnomicccdhilbaaDoorRows
import GoSem.ClaimSeven
namespace Go.Proofs.YtnomicccdhilbaaDoor
namespace Rows

/-- THE TIED CARD OF 'bournelaw05.SignTells'. -/
def signTellsCard : Claim7 := { stood := { row := signTellsRow, standIns := [], harness := (true, "66e2132b46cd6d5169d9b6cac3bee52b440dabe4591e4fe5b5150d4aaa33d9bd"), looks := false }, kinds := [], alts := [], laidByText := true, laidKinds := [.data, .data, .data, .pinned], laidTests := true, laidLooks := .later }
def SignTellsCardSaid : Prop := Claim7.holds Tryd.pinned (.plain (OpenSpec.ofChange signTellsSpec)) signTellsCard

/-- THE TIED CARD OF 'bournelaw05.SignHolds'. -/
def signHoldsCard : Claim7 := { stood := { row := signHoldsRow, standIns := [], harness := (true, "66e2132b46cd6d5169d9b6cac3bee52b440dabe4591e4fe5b5150d4aaa33d9bd"), looks := false }, kinds := [], alts := [], laidByText := true, laidKinds := [.data, .data, .data, .pinned], laidTests := true, laidLooks := .later }
def SignHoldsCardSaid : Prop := Claim7.holds Tryd.pinned (.plain (OpenSpec.ofChange signHoldsSpec)) signHoldsCard

/-- THE TIED CARD OF 'bournelaw05.SignBinds'. -/
def signBindsCard : Claim7 := { stood := { row := signBindsRow, standIns := [], harness := (true, "66e2132b46cd6d5169d9b6cac3bee52b440dabe4591e4fe5b5150d4aaa33d9bd"), looks := false }, kinds := [], alts := [], laidByText := true, laidKinds := [.data, .data, .data, .pinned], laidTests := true, laidLooks := .later }
def SignBindsCardSaid : Prop := Claim7.holds Tryd.pinned (.plain (OpenSpec.ofChange signBindsSpec)) signBindsCard

/-- THE TIED CARD OF 'bournelaw05.SignRanges'. -/
def signRangesCard : Claim7 := { stood := { row := signRangesRow, standIns := [], harness := (true, "66e2132b46cd6d5169d9b6cac3bee52b440dabe4591e4fe5b5150d4aaa33d9bd"), looks := false }, kinds := [], alts := [], laidByText := true, laidKinds := [.data, .data, .data, .pinned], laidTests := true, laidLooks := .later }
def SignRangesCardSaid : Prop := Claim7.holds Tryd.pinned (.plain (OpenSpec.ofChange signRangesSpec)) signRangesCard

/-- THE TIED CARD OF 'bournelaw05.SignEquation'. -/
def signEquationCard : Claim7 := { stood := { row := signEquationRow, standIns := [], harness := (true, "66e2132b46cd6d5169d9b6cac3bee52b440dabe4591e4fe5b5150d4aaa33d9bd"), looks := false }, kinds := [], alts := [], laidByText := true, laidKinds := [.data, .data, .data, .pinned], laidTests := true, laidLooks := .later }
def SignEquationCardSaid : Prop := Claim7.holds Tryd.pinned (.plain (OpenSpec.ofChange signEquationSpec)) signEquationCard

/-- THE SECOND FORM's CARD OF 'bournelaw05.SignTells'. -/
def signTellsUptoCard : Claim7 := { stood := { row := signTellsUptoRow, standIns := [], harness := (true, "66e2132b46cd6d5169d9b6cac3bee52b440dabe4591e4fe5b5150d4aaa33d9bd"), looks := false }, kinds := [], alts := [], laidByText := true, laidKinds := [.data, .data, .data, .pinned], laidTests := true, laidLooks := .later }
def SignTellsUptoCardSaid : Prop := Claim7.holds Tryd.pinned (.plain (OpenSpec.upto signTellsSpec)) signTellsUptoCard

/-- THE SECOND FORM's CARD OF 'bournelaw05.SignHolds'. -/
def signHoldsUptoCard : Claim7 := { stood := { row := signHoldsUptoRow, standIns := [], harness := (true, "66e2132b46cd6d5169d9b6cac3bee52b440dabe4591e4fe5b5150d4aaa33d9bd"), looks := false }, kinds := [], alts := [], laidByText := true, laidKinds := [.data, .data, .data, .pinned], laidTests := true, laidLooks := .later }
def SignHoldsUptoCardSaid : Prop := Claim7.holds Tryd.pinned (.plain (OpenSpec.upto signHoldsSpec)) signHoldsUptoCard

/-- THE SECOND FORM's CARD OF 'bournelaw05.SignBinds'. -/
def signBindsUptoCard : Claim7 := { stood := { row := signBindsUptoRow, standIns := [], harness := (true, "66e2132b46cd6d5169d9b6cac3bee52b440dabe4591e4fe5b5150d4aaa33d9bd"), looks := false }, kinds := [], alts := [], laidByText := true, laidKinds := [.data, .data, .data, .pinned], laidTests := true, laidLooks := .later }
def SignBindsUptoCardSaid : Prop := Claim7.holds Tryd.pinned (.plain (OpenSpec.upto signBindsSpec)) signBindsUptoCard

/-- THE SECOND FORM's CARD OF 'bournelaw05.SignRanges'. -/
def signRangesUptoCard : Claim7 := { stood := { row := signRangesUptoRow, standIns := [], harness := (true, "66e2132b46cd6d5169d9b6cac3bee52b440dabe4591e4fe5b5150d4aaa33d9bd"), looks := false }, kinds := [], alts := [], laidByText := true, laidKinds := [.data, .data, .data, .pinned], laidTests := true, laidLooks := .later }
def SignRangesUptoCardSaid : Prop := Claim7.holds Tryd.pinned (.plain (OpenSpec.upto signRangesSpec)) signRangesUptoCard

/-- THE SECOND FORM's CARD OF 'bournelaw05.SignEquation'. -/
def signEquationUptoCard : Claim7 := { stood := { row := signEquationUptoRow, standIns := [], harness := (true, "66e2132b46cd6d5169d9b6cac3bee52b440dabe4591e4fe5b5150d4aaa33d9bd"), looks := false }, kinds := [], alts := [], laidByText := true, laidKinds := [.data, .data, .data, .pinned], laidTests := true, laidLooks := .later }
def SignEquationUptoCardSaid : Prop := Claim7.holds Tryd.pinned (.plain (OpenSpec.upto signEquationSpec)) signEquationUptoCard
end Rows
end Go.Proofs.YtnomicccdhilbaaDoor
