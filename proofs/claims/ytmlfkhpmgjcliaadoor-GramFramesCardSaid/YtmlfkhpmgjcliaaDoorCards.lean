/-
  DERIVED. GIVEN WITH THE SEED: THE CARDS: each row of YtmlfkhpmgjcliaaDoorRows.lean that lists a variable, with what it lists TIED to the program's text (the seventh form; the later family's looks); each row that meets fmt, with fmt's text TOLD by the authors' own Lean function (tested against real Go, not proved from fmt's source: count such statements apart). THE CARD IS WHAT COUNTS. Prove the row's statement (the work); the ties are given (YtmlfkhpmgjcliaaDoorTie.lean); close each card by the builder's one call (the guide's Derived/Test/ToyasCard.lean, 'card_holds'). Laid BY PROGRAM, IN A SANDBOX (cutbox-door.mjs). By AI agents, Wed Nov 11 2026. No macro, syntax, notation, axiom, sorry.
-/
import Derived.Test.YtmlfkhpmgjcliaaDoorRows
import GoSem.ClaimSeven
namespace Go.Proofs.YtmlfkhpmgjcliaaDoor
namespace Rows

/-- THE TIED CARD OF 'bournelaw24.GramTells'. -/
def gramTellsCard : Claim7 := { stood := { row := gramTellsRow, standIns := [], harness := (true, "ff1619817b92025a4fdc5fdcee7f47c92a386e96112cfa5f0c0319a68fb32df7"), looks := false }, kinds := [], alts := [], laidByText := true, laidKinds := [.data, .data, .data, .pinned], laidTests := true, laidLooks := .later }
def GramTellsCardSaid : Prop := Claim7.holds Tryd.pinned (.plain (OpenSpec.ofChange gramTellsSpec)) gramTellsCard

/-- THE TIED CARD OF 'bournelaw24.GramReads'. -/
def gramReadsCard : Claim7 := { stood := { row := gramReadsRow, standIns := [], harness := (true, "ff1619817b92025a4fdc5fdcee7f47c92a386e96112cfa5f0c0319a68fb32df7"), looks := false }, kinds := [], alts := [], laidByText := true, laidKinds := [.data, .data, .data, .pinned], laidTests := true, laidLooks := .later }
def GramReadsCardSaid : Prop := Claim7.holds Tryd.pinned (.plain (OpenSpec.ofChange gramReadsSpec)) gramReadsCard

/-- THE TIED CARD OF 'bournelaw24.GramOrders'. -/
def gramOrdersCard : Claim7 := { stood := { row := gramOrdersRow, standIns := [], harness := (true, "ff1619817b92025a4fdc5fdcee7f47c92a386e96112cfa5f0c0319a68fb32df7"), looks := false }, kinds := [], alts := [], laidByText := true, laidKinds := [.data, .data, .data, .pinned], laidTests := true, laidLooks := .later }
def GramOrdersCardSaid : Prop := Claim7.holds Tryd.pinned (.plain (OpenSpec.ofChange gramOrdersSpec)) gramOrdersCard

/-- THE TIED CARD OF 'bournelaw24.GramSeals'. -/
def gramSealsCard : Claim7 := { stood := { row := gramSealsRow, standIns := [], harness := (true, "ff1619817b92025a4fdc5fdcee7f47c92a386e96112cfa5f0c0319a68fb32df7"), looks := false }, kinds := [], alts := [], laidByText := true, laidKinds := [.data, .data, .data, .pinned], laidTests := true, laidLooks := .later }
def GramSealsCardSaid : Prop := Claim7.holds Tryd.pinned (.plain (OpenSpec.ofChange gramSealsSpec)) gramSealsCard

/-- THE TIED CARD OF 'bournelaw24.GramFrames'. -/
def gramFramesCard : Claim7 := { stood := { row := gramFramesRow, standIns := [], harness := (true, "ff1619817b92025a4fdc5fdcee7f47c92a386e96112cfa5f0c0319a68fb32df7"), looks := false }, kinds := [], alts := [], laidByText := true, laidKinds := [.data, .data, .data, .pinned], laidTests := true, laidLooks := .later }
def GramFramesCardSaid : Prop := Claim7.holds Tryd.pinned (.plain (OpenSpec.ofChange gramFramesSpec)) gramFramesCard

/-- THE SECOND FORM's CARD OF 'bournelaw24.GramTells'. -/
def gramTellsUptoCard : Claim7 := { stood := { row := gramTellsUptoRow, standIns := [], harness := (true, "ff1619817b92025a4fdc5fdcee7f47c92a386e96112cfa5f0c0319a68fb32df7"), looks := false }, kinds := [], alts := [], laidByText := true, laidKinds := [.data, .data, .data, .pinned], laidTests := true, laidLooks := .later }
def GramTellsUptoCardSaid : Prop := Claim7.holds Tryd.pinned (.plain (OpenSpec.upto gramTellsSpec)) gramTellsUptoCard

/-- THE SECOND FORM's CARD OF 'bournelaw24.GramReads'. -/
def gramReadsUptoCard : Claim7 := { stood := { row := gramReadsUptoRow, standIns := [], harness := (true, "ff1619817b92025a4fdc5fdcee7f47c92a386e96112cfa5f0c0319a68fb32df7"), looks := false }, kinds := [], alts := [], laidByText := true, laidKinds := [.data, .data, .data, .pinned], laidTests := true, laidLooks := .later }
def GramReadsUptoCardSaid : Prop := Claim7.holds Tryd.pinned (.plain (OpenSpec.upto gramReadsSpec)) gramReadsUptoCard

/-- THE SECOND FORM's CARD OF 'bournelaw24.GramOrders'. -/
def gramOrdersUptoCard : Claim7 := { stood := { row := gramOrdersUptoRow, standIns := [], harness := (true, "ff1619817b92025a4fdc5fdcee7f47c92a386e96112cfa5f0c0319a68fb32df7"), looks := false }, kinds := [], alts := [], laidByText := true, laidKinds := [.data, .data, .data, .pinned], laidTests := true, laidLooks := .later }
def GramOrdersUptoCardSaid : Prop := Claim7.holds Tryd.pinned (.plain (OpenSpec.upto gramOrdersSpec)) gramOrdersUptoCard

/-- THE SECOND FORM's CARD OF 'bournelaw24.GramSeals'. -/
def gramSealsUptoCard : Claim7 := { stood := { row := gramSealsUptoRow, standIns := [], harness := (true, "ff1619817b92025a4fdc5fdcee7f47c92a386e96112cfa5f0c0319a68fb32df7"), looks := false }, kinds := [], alts := [], laidByText := true, laidKinds := [.data, .data, .data, .pinned], laidTests := true, laidLooks := .later }
def GramSealsUptoCardSaid : Prop := Claim7.holds Tryd.pinned (.plain (OpenSpec.upto gramSealsSpec)) gramSealsUptoCard

/-- THE SECOND FORM's CARD OF 'bournelaw24.GramFrames'. -/
def gramFramesUptoCard : Claim7 := { stood := { row := gramFramesUptoRow, standIns := [], harness := (true, "ff1619817b92025a4fdc5fdcee7f47c92a386e96112cfa5f0c0319a68fb32df7"), looks := false }, kinds := [], alts := [], laidByText := true, laidKinds := [.data, .data, .data, .pinned], laidTests := true, laidLooks := .later }
def GramFramesUptoCardSaid : Prop := Claim7.holds Tryd.pinned (.plain (OpenSpec.upto gramFramesSpec)) gramFramesUptoCard
end Rows
end Go.Proofs.YtmlfkhpmgjcliaaDoor
