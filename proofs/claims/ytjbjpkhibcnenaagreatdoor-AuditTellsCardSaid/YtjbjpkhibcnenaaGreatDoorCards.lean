/-
  DERIVED. GIVEN WITH THE SEED: THE CARDS: each row of YtjbjpkhibcnenaaGreatDoorRows.lean that lists a variable, with what it lists TIED to the program's text (the seventh form; the later family's looks); each row that meets fmt, with fmt's text TOLD by the authors' own Lean function (tested against real Go, not proved from fmt's source: count such statements apart). THE CARD IS WHAT COUNTS. Prove the row's statement (the work); the ties are given (YtjbjpkhibcnenaaGreatDoorTie.lean); close each card by the builder's one call (the guide's Derived/Test/ToyasCard.lean, 'card_holds'). Laid BY PROGRAM, IN A SANDBOX (cutbox-door.mjs). By AI agents, Wed Nov 11 2026. No macro, syntax, notation, axiom, sorry.
-/
import Derived.Test.YtjbjpkhibcnenaaGreatDoorRows
import GoSem.ClaimSeven
namespace Go.Proofs.YtjbjpkhibcnenaaGreatDoor
namespace Rows

/-- THE TIED CARD OF 'bournelaw46.AuditProves'. -/
def auditProvesCard : Claim7 := { stood := { row := auditProvesRow, standIns := [], harness := (true, "3b061b035f16c70fa45024eeed7cb570e0083af695cb46825724df94e4cae298"), looks := false }, kinds := [], alts := [], laidByText := true, laidKinds := [.data, .data, .data, .pinned], laidTests := true, laidLooks := .later }
def AuditProvesCardSaid : Prop := Claim7.holds Tryz.pinned (.plain (OpenSpec.ofChange auditProvesSpec)) auditProvesCard

/-- THE TIED CARD OF 'bournelaw46.AuditGrows'. -/
def auditGrowsCard : Claim7 := { stood := { row := auditGrowsRow, standIns := [], harness := (true, "3b061b035f16c70fa45024eeed7cb570e0083af695cb46825724df94e4cae298"), looks := false }, kinds := [], alts := [], laidByText := true, laidKinds := [.data, .data, .data, .pinned], laidTests := true, laidLooks := .later }
def AuditGrowsCardSaid : Prop := Claim7.holds Tryz.pinned (.plain (OpenSpec.ofChange auditGrowsSpec)) auditGrowsCard

/-- THE TIED CARD OF 'bournelaw46.AuditTells'. -/
def auditTellsCard : Claim7 := { stood := { row := auditTellsRow, standIns := [], harness := (true, "3b061b035f16c70fa45024eeed7cb570e0083af695cb46825724df94e4cae298"), looks := false }, kinds := [], alts := [], laidByText := true, laidKinds := [.data, .data, .data, .pinned], laidTests := true, laidLooks := .later }
def AuditTellsCardSaid : Prop := Claim7.holds Tryz.pinned (.plain (OpenSpec.ofChange auditTellsSpec)) auditTellsCard

/-- THE SECOND FORM's CARD OF 'bournelaw46.AuditProves'. -/
def auditProvesUptoCard : Claim7 := { stood := { row := auditProvesUptoRow, standIns := [], harness := (true, "3b061b035f16c70fa45024eeed7cb570e0083af695cb46825724df94e4cae298"), looks := false }, kinds := [], alts := [], laidByText := true, laidKinds := [.data, .data, .data, .pinned], laidTests := true, laidLooks := .later }
def AuditProvesUptoCardSaid : Prop := Claim7.holds Tryz.pinned (.plain (OpenSpec.upto auditProvesSpec)) auditProvesUptoCard

/-- THE SECOND FORM's CARD OF 'bournelaw46.AuditGrows'. -/
def auditGrowsUptoCard : Claim7 := { stood := { row := auditGrowsUptoRow, standIns := [], harness := (true, "3b061b035f16c70fa45024eeed7cb570e0083af695cb46825724df94e4cae298"), looks := false }, kinds := [], alts := [], laidByText := true, laidKinds := [.data, .data, .data, .pinned], laidTests := true, laidLooks := .later }
def AuditGrowsUptoCardSaid : Prop := Claim7.holds Tryz.pinned (.plain (OpenSpec.upto auditGrowsSpec)) auditGrowsUptoCard

/-- THE SECOND FORM's CARD OF 'bournelaw46.AuditTells'. -/
def auditTellsUptoCard : Claim7 := { stood := { row := auditTellsUptoRow, standIns := [], harness := (true, "3b061b035f16c70fa45024eeed7cb570e0083af695cb46825724df94e4cae298"), looks := false }, kinds := [], alts := [], laidByText := true, laidKinds := [.data, .data, .data, .pinned], laidTests := true, laidLooks := .later }
def AuditTellsUptoCardSaid : Prop := Claim7.holds Tryz.pinned (.plain (OpenSpec.upto auditTellsSpec)) auditTellsUptoCard
end Rows
end Go.Proofs.YtjbjpkhibcnenaaGreatDoor
