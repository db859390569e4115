/-
  DERIVED. GIVEN WITH THE SEED: THE CARDS: each row of YtapbehipdeabbaaDoorRows.lean that lists a variable, with what it lists TIED to the program's text (the seventh form; the later family's looks); each row that meets fmt, with fmt's text TOLD by the authors' own Lean function (tested against real Go, not proved from fmt's source: count such statements apart). THE CARD IS WHAT COUNTS. Prove the row's statement (the work); the ties are given (YtapbehipdeabbaaDoorTie.lean); close each card by the builder's one call (the guide's Derived/Test/ToyasCard.lean, 'card_holds'). Laid BY PROGRAM, IN A SANDBOX (cutbox-door.mjs). By AI agents, Wed Nov 11 2026. No macro, syntax, notation, axiom, sorry.
-/
import Derived.Test.YtapbehipdeabbaaDoorRows
import GoSem.ClaimSeven
namespace Go.Proofs.YtapbehipdeabbaaDoor
namespace Rows

/-- THE TIED CARD OF 'bournelaw02.WireWrites'. -/
def wireWritesCard : Claim7 := { stood := { row := wireWritesRow, standIns := [], harness := (true, "d8162396561bd3dfde62491fd4c9b65c37942e471e72d1149b5ff2262544b126"), looks := false }, kinds := [], alts := [], laidByText := true, laidKinds := [.data, .pinned], laidTests := true, laidLooks := .later }
def WireWritesCardSaid : Prop := Claim7.holds Tryd.pinned (.plain (OpenSpec.ofChange wireWritesSpec)) wireWritesCard

/-- THE TIED CARD OF 'bournelaw02.WireOrder'. -/
def wireOrderCard : Claim7 := { stood := { row := wireOrderRow, standIns := [], harness := (true, "d8162396561bd3dfde62491fd4c9b65c37942e471e72d1149b5ff2262544b126"), looks := false }, kinds := [], alts := [], laidByText := true, laidKinds := [.data, .pinned], laidTests := true, laidLooks := .later }
def WireOrderCardSaid : Prop := Claim7.holds Tryd.pinned (.plain (OpenSpec.ofChange wireOrderSpec)) wireOrderCard

/-- THE TIED CARD OF 'bournelaw02.WireReads'. -/
def wireReadsCard : Claim7 := { stood := { row := wireReadsRow, standIns := [], harness := (true, "d8162396561bd3dfde62491fd4c9b65c37942e471e72d1149b5ff2262544b126"), looks := false }, kinds := [], alts := [], laidByText := true, laidKinds := [.data, .pinned], laidTests := true, laidLooks := .later }
def WireReadsCardSaid : Prop := Claim7.holds Tryd.pinned (.plain (OpenSpec.ofChange wireReadsSpec)) wireReadsCard

/-- THE TIED CARD OF 'bournelaw02.WireBack'. -/
def wireBackCard : Claim7 := { stood := { row := wireBackRow, standIns := [], harness := (true, "d8162396561bd3dfde62491fd4c9b65c37942e471e72d1149b5ff2262544b126"), looks := false }, kinds := [], alts := [], laidByText := true, laidKinds := [.data, .pinned], laidTests := true, laidLooks := .later }
def WireBackCardSaid : Prop := Claim7.holds Tryd.pinned (.plain (OpenSpec.ofChange wireBackSpec)) wireBackCard

/-- THE TIED CARD OF 'bournelaw02.WireOnly'. -/
def wireOnlyCard : Claim7 := { stood := { row := wireOnlyRow, standIns := [], harness := (true, "d8162396561bd3dfde62491fd4c9b65c37942e471e72d1149b5ff2262544b126"), looks := false }, kinds := [], alts := [], laidByText := true, laidKinds := [.data, .pinned], laidTests := true, laidLooks := .later }
def WireOnlyCardSaid : Prop := Claim7.holds Tryd.pinned (.plain (OpenSpec.ofChange wireOnlySpec)) wireOnlyCard

/-- THE SECOND FORM's CARD OF 'bournelaw02.WireWrites'. -/
def wireWritesUptoCard : Claim7 := { stood := { row := wireWritesUptoRow, standIns := [], harness := (true, "d8162396561bd3dfde62491fd4c9b65c37942e471e72d1149b5ff2262544b126"), looks := false }, kinds := [], alts := [], laidByText := true, laidKinds := [.data, .pinned], laidTests := true, laidLooks := .later }
def WireWritesUptoCardSaid : Prop := Claim7.holds Tryd.pinned (.plain (OpenSpec.upto wireWritesSpec)) wireWritesUptoCard

/-- THE SECOND FORM's CARD OF 'bournelaw02.WireOrder'. -/
def wireOrderUptoCard : Claim7 := { stood := { row := wireOrderUptoRow, standIns := [], harness := (true, "d8162396561bd3dfde62491fd4c9b65c37942e471e72d1149b5ff2262544b126"), looks := false }, kinds := [], alts := [], laidByText := true, laidKinds := [.data, .pinned], laidTests := true, laidLooks := .later }
def WireOrderUptoCardSaid : Prop := Claim7.holds Tryd.pinned (.plain (OpenSpec.upto wireOrderSpec)) wireOrderUptoCard

/-- THE SECOND FORM's CARD OF 'bournelaw02.WireReads'. -/
def wireReadsUptoCard : Claim7 := { stood := { row := wireReadsUptoRow, standIns := [], harness := (true, "d8162396561bd3dfde62491fd4c9b65c37942e471e72d1149b5ff2262544b126"), looks := false }, kinds := [], alts := [], laidByText := true, laidKinds := [.data, .pinned], laidTests := true, laidLooks := .later }
def WireReadsUptoCardSaid : Prop := Claim7.holds Tryd.pinned (.plain (OpenSpec.upto wireReadsSpec)) wireReadsUptoCard

/-- THE SECOND FORM's CARD OF 'bournelaw02.WireBack'. -/
def wireBackUptoCard : Claim7 := { stood := { row := wireBackUptoRow, standIns := [], harness := (true, "d8162396561bd3dfde62491fd4c9b65c37942e471e72d1149b5ff2262544b126"), looks := false }, kinds := [], alts := [], laidByText := true, laidKinds := [.data, .pinned], laidTests := true, laidLooks := .later }
def WireBackUptoCardSaid : Prop := Claim7.holds Tryd.pinned (.plain (OpenSpec.upto wireBackSpec)) wireBackUptoCard

/-- THE SECOND FORM's CARD OF 'bournelaw02.WireOnly'. -/
def wireOnlyUptoCard : Claim7 := { stood := { row := wireOnlyUptoRow, standIns := [], harness := (true, "d8162396561bd3dfde62491fd4c9b65c37942e471e72d1149b5ff2262544b126"), looks := false }, kinds := [], alts := [], laidByText := true, laidKinds := [.data, .pinned], laidTests := true, laidLooks := .later }
def WireOnlyUptoCardSaid : Prop := Claim7.holds Tryd.pinned (.plain (OpenSpec.upto wireOnlySpec)) wireOnlyUptoCard
end Rows
end Go.Proofs.YtapbehipdeabbaaDoor
