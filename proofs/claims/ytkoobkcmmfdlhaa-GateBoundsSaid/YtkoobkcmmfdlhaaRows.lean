/-
  No cell of these rows narrows 'for every input' (looked for: loops, veiled, ifaces, maps, wideKeys, modest, calm, conditions, laid).
  DERIVED. THE GIVEN ROWS OF THIS SEAT. 4 by the template 'for every input the law returns true; each argument reads behind the call as it read before'; 0 by the template 'total and deterministic' (their statements: YtkoobkcmmfdlhaaTotals.lean).
  GIVEN WITH THE SEED: the statements are not yours to turn. If you find one false, say at which input.
  Laid BY PROGRAM, IN A SANDBOX (cutbox-rows.mjs): the forced cells as the released guide's own fill.sh prints them over the translation e1e779ec2af3436a… (all of the seat's roots in one cut). By AI agents, Wed Nov 11 2026. No macro, syntax, notation, axiom, sorry.
-/
import Derived.Test.YtkoobkcmmfdlhaaChecked
import GoSem.Claim
import GoSem.ClaimJoined
import GoSem.ClaimMapViews
import Derived.JoinedTies
import Derived.KernelRfl
namespace Go.Proofs.Ytkoobkcmmfdlhaa
/- THE CELL 'sum', in the pinned program and in every row, IS THE sha256 OF THE DUMP (.gsa) THAT YtkoobkcmmfdlhaaProg.lean LOADS. Nothing in Lean hashes anything: it is a label: what it is worth is what the hold of that sum in a sandbox is worth. -/
noncomputable def Try.pinned : Pinned := { name := "ytkoobkcmmfdlhaa", sum := "e1e779ec2af3436a6497bbb135d6cffd37fc9cc1e2af954c0d71a5fa4dc49b56", checked := Try.checked }
namespace Rows
def none {H : Type} : Left H := { results := [], args := [] }

/-- 'bournelaw19.GateMoves': WHATEVER THE INPUT: true; the input reads as it did. -/
def gateMovesSpec : ChangeSpec := { name := "gateMoves", fn := fun _ => fun
  | [d1, d2, d3] => { results := [.lit (.bool true)], args := [d1, d2, d3] }
  | _ => none }
def gateMovesRow : OpenClaim := { program := "ytkoobkcmmfdlhaa", sum := "e1e779ec2af3436a6497bbb135d6cffd37fc9cc1e2af954c0d71a5fa4dc49b56", func := "bourne/bournelaw19.GateMoves", spec := "gateMoves", unfollowed := true, recurses := true, named := ["math/bits.divideError", "math/bits.overflowError"], plainKeys := false, apart := false }
def GateMovesSaid : Prop := gateMovesRow.holds Try.pinned (OpenSpec.ofChange gateMovesSpec)

/-- ITS FALSE NEIGHBOUR: 'it returns false'. Refute it at one input. -/
def gateMovesWrong : ChangeSpec := { name := "gateMoves", fn := fun _ => fun
  | [d1, d2, d3] => { results := [.lit (.bool false)], args := [d1, d2, d3] }
  | _ => none }
def GateMovesWrongFalsely : Prop := gateMovesRow.holds Try.pinned (OpenSpec.ofChange gateMovesWrong)

/-- 'bournelaw19.GateOrders': WHATEVER THE INPUT: true; the input reads as it did. -/
def gateOrdersSpec : ChangeSpec := { name := "gateOrders", fn := fun _ => fun
  | [d1, d2, d3, d4, d5, d6] => { results := [.lit (.bool true)], args := [d1, d2, d3, d4, d5, d6] }
  | _ => none }
def gateOrdersRow : OpenClaim := { program := "ytkoobkcmmfdlhaa", sum := "e1e779ec2af3436a6497bbb135d6cffd37fc9cc1e2af954c0d71a5fa4dc49b56", func := "bourne/bournelaw19.GateOrders", spec := "gateOrders", unfollowed := true, recurses := true, named := ["math/bits.divideError", "math/bits.overflowError"], plainKeys := false, apart := false }
def GateOrdersSaid : Prop := gateOrdersRow.holds Try.pinned (OpenSpec.ofChange gateOrdersSpec)

/-- ITS FALSE NEIGHBOUR: 'it returns false'. Refute it at one input. -/
def gateOrdersWrong : ChangeSpec := { name := "gateOrders", fn := fun _ => fun
  | [d1, d2, d3, d4, d5, d6] => { results := [.lit (.bool false)], args := [d1, d2, d3, d4, d5, d6] }
  | _ => none }
def GateOrdersWrongFalsely : Prop := gateOrdersRow.holds Try.pinned (OpenSpec.ofChange gateOrdersWrong)

/-- 'bournelaw19.GateDrifts': WHATEVER THE INPUT: true; the input reads as it did. -/
def gateDriftsSpec : ChangeSpec := { name := "gateDrifts", fn := fun _ => fun
  | [d1, d2, d3, d4] => { results := [.lit (.bool true)], args := [d1, d2, d3, d4] }
  | _ => none }
def gateDriftsRow : OpenClaim := { program := "ytkoobkcmmfdlhaa", sum := "e1e779ec2af3436a6497bbb135d6cffd37fc9cc1e2af954c0d71a5fa4dc49b56", func := "bourne/bournelaw19.GateDrifts", spec := "gateDrifts", unfollowed := true, recurses := true, named := ["math/bits.divideError", "math/bits.overflowError"], plainKeys := false, apart := false }
def GateDriftsSaid : Prop := gateDriftsRow.holds Try.pinned (OpenSpec.ofChange gateDriftsSpec)

/-- ITS FALSE NEIGHBOUR: 'it returns false'. Refute it at one input. -/
def gateDriftsWrong : ChangeSpec := { name := "gateDrifts", fn := fun _ => fun
  | [d1, d2, d3, d4] => { results := [.lit (.bool false)], args := [d1, d2, d3, d4] }
  | _ => none }
def GateDriftsWrongFalsely : Prop := gateDriftsRow.holds Try.pinned (OpenSpec.ofChange gateDriftsWrong)

/-- 'bournelaw19.GateBounds': WHATEVER THE INPUT: true; the input reads as it did. -/
def gateBoundsSpec : ChangeSpec := { name := "gateBounds", fn := fun _ => fun
  | [d1, d2, d3, d4, d5, d6, d7, d8, d9] => { results := [.lit (.bool true)], args := [d1, d2, d3, d4, d5, d6, d7, d8, d9] }
  | _ => none }
def gateBoundsRow : OpenClaim := { program := "ytkoobkcmmfdlhaa", sum := "e1e779ec2af3436a6497bbb135d6cffd37fc9cc1e2af954c0d71a5fa4dc49b56", func := "bourne/bournelaw19.GateBounds", spec := "gateBounds", unfollowed := true, recurses := true, named := ["math/bits.divideError", "math/bits.overflowError"], plainKeys := false, apart := false }
def GateBoundsSaid : Prop := gateBoundsRow.holds Try.pinned (OpenSpec.ofChange gateBoundsSpec)

/-- ITS FALSE NEIGHBOUR: 'it returns false'. Refute it at one input. -/
def gateBoundsWrong : ChangeSpec := { name := "gateBounds", fn := fun _ => fun
  | [d1, d2, d3, d4, d5, d6, d7, d8, d9] => { results := [.lit (.bool false)], args := [d1, d2, d3, d4, d5, d6, d7, d8, d9] }
  | _ => none }
def GateBoundsWrongFalsely : Prop := gateBoundsRow.holds Try.pinned (OpenSpec.ofChange gateBoundsWrong)

/- THE SECOND FORM. 'bulk': how many values and letters a reading holds, each counted each time it is reached (what is shared counts as often as it is met; a slice's spare places count too). A statement '..UptoSaid' is the law's where the arguments, and the package variables that the reading takes, are together of bulk at most 1048576: NARROWER than '..Said'. Prove '..Said' where nothing that the law and all that it calls make is longer than what came in: it says more and counts as full. Else prove '..UptoSaid'. A law counts once. -/
mutual
def uptoBulk {H : Type} : DataW H → Nat
  | .lit (.string bytes) => bytes.length + 1
  | .lit _ => 1
  | .nil => 1
  | .ptr d => uptoBulk d + 1
  | .slice elems spare => uptoBulkAll elems + uptoBulkAll spare + 1
  | .agg parts => uptoBulkAll parts + 1
  | .iface _ d => uptoBulk d + 1
  | .map entries => uptoBulkEntries entries + 1
  | .held _ => 1
def uptoBulkAll {H : Type} : List (DataW H) → Nat
  | [] => 0
  | d :: r => uptoBulk d + uptoBulkAll r
def uptoBulkEntries {H : Type} : List (Lit × DataW H) → Nat
  | [] => 0
  | x :: r => uptoBulkEntry x + uptoBulkEntries r
def uptoBulkEntry {H : Type} : Lit × DataW H → Nat
  | (.string bytes, d) => bytes.length + uptoBulk d + 1
  | (_, d) => uptoBulk d + 1
 end
def uptoSmall : (H : Type) → List (DataW H) → Bool := fun _ ds => decide (uptoBulkAll ds ≤ 1048576)
def OpenSpec.upto (s : _root_.Go.ChangeSpec) : _root_.Go.OpenSpec := { _root_.Go.OpenSpec.ofChange s with cond := some uptoSmall }

/-- 'bournelaw19.GateMoves', WHERE WHAT IT READS IS OF BULK AT MOST 1048576: true; the input reads as it did. -/
def gateMovesUptoRow : OpenClaim := { program := "ytkoobkcmmfdlhaa", sum := "e1e779ec2af3436a6497bbb135d6cffd37fc9cc1e2af954c0d71a5fa4dc49b56", func := "bourne/bournelaw19.GateMoves", spec := "gateMoves", unfollowed := true, recurses := true, named := ["math/bits.divideError", "math/bits.overflowError"], plainKeys := false, apart := false, narrowed := true }
def GateMovesUptoSaid : Prop := gateMovesUptoRow.holds Try.pinned (OpenSpec.upto gateMovesSpec)

/-- 'bournelaw19.GateOrders', WHERE WHAT IT READS IS OF BULK AT MOST 1048576: true; the input reads as it did. -/
def gateOrdersUptoRow : OpenClaim := { program := "ytkoobkcmmfdlhaa", sum := "e1e779ec2af3436a6497bbb135d6cffd37fc9cc1e2af954c0d71a5fa4dc49b56", func := "bourne/bournelaw19.GateOrders", spec := "gateOrders", unfollowed := true, recurses := true, named := ["math/bits.divideError", "math/bits.overflowError"], plainKeys := false, apart := false, narrowed := true }
def GateOrdersUptoSaid : Prop := gateOrdersUptoRow.holds Try.pinned (OpenSpec.upto gateOrdersSpec)

/-- 'bournelaw19.GateDrifts', WHERE WHAT IT READS IS OF BULK AT MOST 1048576: true; the input reads as it did. -/
def gateDriftsUptoRow : OpenClaim := { program := "ytkoobkcmmfdlhaa", sum := "e1e779ec2af3436a6497bbb135d6cffd37fc9cc1e2af954c0d71a5fa4dc49b56", func := "bourne/bournelaw19.GateDrifts", spec := "gateDrifts", unfollowed := true, recurses := true, named := ["math/bits.divideError", "math/bits.overflowError"], plainKeys := false, apart := false, narrowed := true }
def GateDriftsUptoSaid : Prop := gateDriftsUptoRow.holds Try.pinned (OpenSpec.upto gateDriftsSpec)

/-- 'bournelaw19.GateBounds', WHERE WHAT IT READS IS OF BULK AT MOST 1048576: true; the input reads as it did. -/
def gateBoundsUptoRow : OpenClaim := { program := "ytkoobkcmmfdlhaa", sum := "e1e779ec2af3436a6497bbb135d6cffd37fc9cc1e2af954c0d71a5fa4dc49b56", func := "bourne/bournelaw19.GateBounds", spec := "gateBounds", unfollowed := true, recurses := true, named := ["math/bits.divideError", "math/bits.overflowError"], plainKeys := false, apart := false, narrowed := true }
def GateBoundsUptoSaid : Prop := gateBoundsUptoRow.holds Try.pinned (OpenSpec.upto gateBoundsSpec)

end Rows
end Go.Proofs.Ytkoobkcmmfdlhaa
