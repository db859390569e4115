/-
  No cell of these rows narrows 'for every input' (looked for: loops, veiled, ifaces, maps, wideKeys, modest, calm, conditions, laid).
  DERIVED. THE GIVEN ROWS OF THIS SEAT. 6 by the template 'for every input the law returns true; each argument reads behind the call as it read before'; 0 by the template 'total and deterministic' (their statements: YtleiiedacachjaaTotals.lean).
  GIVEN WITH THE SEED: the statements are not yours to turn. If you find one false, say at which input.
  Laid BY PROGRAM, IN A SANDBOX (cutbox-rows.mjs): the forced cells as the released guide's own fill.sh prints them over the translation f315567aa0e2c001… (all of the seat's roots in one cut). By AI agents, Wed Nov 11 2026. No macro, syntax, notation, axiom, sorry.
-/
import Derived.Test.YtleiiedacachjaaChecked
import GoSem.Claim
import GoSem.ClaimJoined
import GoSem.ClaimMapViews
import Derived.JoinedTies
import Derived.KernelRfl
namespace Go.Proofs.Ytleiiedacachjaa
/- THE CELL 'sum', in the pinned program and in every row, IS THE sha256 OF THE DUMP (.gsa) THAT YtleiiedacachjaaProg.lean LOADS. Nothing in Lean hashes anything: it is a label: what it is worth is what the hold of that sum in a sandbox is worth. -/
noncomputable def Try.pinned : Pinned := { name := "ytleiiedacachjaa", sum := "f315567aa0e2c001bc381c23917aa7002b7b725da13d6ddad182c8fc137e3c09", checked := Try.checked }
namespace Rows
def none {H : Type} : Left H := { results := [], args := [] }

/-- 'bournelaw29.CastReplays': WHATEVER THE INPUT: true; the input reads as it did. -/
def castReplaysSpec : ChangeSpec := { name := "castReplays", fn := fun _ => fun
  | [d1, d2, d3] => { results := [.lit (.bool true)], args := [d1, d2, d3] }
  | _ => none }
def castReplaysRow : OpenClaim := { program := "ytleiiedacachjaa", sum := "f315567aa0e2c001bc381c23917aa7002b7b725da13d6ddad182c8fc137e3c09", func := "bourne/bournelaw29.CastReplays", spec := "castReplays", inPlace := ["internal/abi.NoEscape"], unfollowed := true, recurses := true, apart := false }
def CastReplaysSaid : Prop := castReplaysRow.holds Try.pinned (OpenSpec.ofChange castReplaysSpec)

/-- ITS FALSE NEIGHBOUR: 'it returns false'. Refute it at one input. -/
def castReplaysWrong : ChangeSpec := { name := "castReplays", fn := fun _ => fun
  | [d1, d2, d3] => { results := [.lit (.bool false)], args := [d1, d2, d3] }
  | _ => none }
def CastReplaysWrongFalsely : Prop := castReplaysRow.holds Try.pinned (OpenSpec.ofChange castReplaysWrong)

/-- 'bournelaw29.CastAside': WHATEVER THE INPUT: true; the input reads as it did. -/
def castAsideSpec : ChangeSpec := { name := "castAside", fn := fun _ => fun
  | [d1, d2, d3] => { results := [.lit (.bool true)], args := [d1, d2, d3] }
  | _ => none }
def castAsideRow : OpenClaim := { program := "ytleiiedacachjaa", sum := "f315567aa0e2c001bc381c23917aa7002b7b725da13d6ddad182c8fc137e3c09", func := "bourne/bournelaw29.CastAside", spec := "castAside", inPlace := ["internal/abi.NoEscape"], unfollowed := true, recurses := true, apart := false }
def CastAsideSaid : Prop := castAsideRow.holds Try.pinned (OpenSpec.ofChange castAsideSpec)

/-- ITS FALSE NEIGHBOUR: 'it returns false'. Refute it at one input. -/
def castAsideWrong : ChangeSpec := { name := "castAside", fn := fun _ => fun
  | [d1, d2, d3] => { results := [.lit (.bool false)], args := [d1, d2, d3] }
  | _ => none }
def CastAsideWrongFalsely : Prop := castAsideRow.holds Try.pinned (OpenSpec.ofChange castAsideWrong)

/-- 'bournelaw29.CastOrders': WHATEVER THE INPUT: true; the input reads as it did. -/
def castOrdersSpec : ChangeSpec := { name := "castOrders", fn := fun _ => fun
  | [d1, d2] => { results := [.lit (.bool true)], args := [d1, d2] }
  | _ => none }
def castOrdersRow : OpenClaim := { program := "ytleiiedacachjaa", sum := "f315567aa0e2c001bc381c23917aa7002b7b725da13d6ddad182c8fc137e3c09", func := "bourne/bournelaw29.CastOrders", spec := "castOrders", inPlace := ["internal/abi.NoEscape"], unfollowed := true, recurses := true, apart := false }
def CastOrdersSaid : Prop := castOrdersRow.holds Try.pinned (OpenSpec.ofChange castOrdersSpec)

/-- ITS FALSE NEIGHBOUR: 'it returns false'. Refute it at one input. -/
def castOrdersWrong : ChangeSpec := { name := "castOrders", fn := fun _ => fun
  | [d1, d2] => { results := [.lit (.bool false)], args := [d1, d2] }
  | _ => none }
def CastOrdersWrongFalsely : Prop := castOrdersRow.holds Try.pinned (OpenSpec.ofChange castOrdersWrong)

/-- 'bournelaw29.CastCovers': WHATEVER THE INPUT: true; the input reads as it did. -/
def castCoversSpec : ChangeSpec := { name := "castCovers", fn := fun _ => fun
  | [d1, d2, d3, d4] => { results := [.lit (.bool true)], args := [d1, d2, d3, d4] }
  | _ => none }
def castCoversRow : OpenClaim := { program := "ytleiiedacachjaa", sum := "f315567aa0e2c001bc381c23917aa7002b7b725da13d6ddad182c8fc137e3c09", func := "bourne/bournelaw29.CastCovers", spec := "castCovers", inPlace := ["internal/abi.NoEscape"], unfollowed := true, recurses := true, apart := false }
def CastCoversSaid : Prop := castCoversRow.holds Try.pinned (OpenSpec.ofChange castCoversSpec)

/-- ITS FALSE NEIGHBOUR: 'it returns false'. Refute it at one input. -/
def castCoversWrong : ChangeSpec := { name := "castCovers", fn := fun _ => fun
  | [d1, d2, d3, d4] => { results := [.lit (.bool false)], args := [d1, d2, d3, d4] }
  | _ => none }
def CastCoversWrongFalsely : Prop := castCoversRow.holds Try.pinned (OpenSpec.ofChange castCoversWrong)

/-- 'bournelaw29.CastLast': WHATEVER THE INPUT: true; the input reads as it did. -/
def castLastSpec : ChangeSpec := { name := "castLast", fn := fun _ => fun
  | [d1, d2] => { results := [.lit (.bool true)], args := [d1, d2] }
  | _ => none }
def castLastRow : OpenClaim := { program := "ytleiiedacachjaa", sum := "f315567aa0e2c001bc381c23917aa7002b7b725da13d6ddad182c8fc137e3c09", func := "bourne/bournelaw29.CastLast", spec := "castLast", inPlace := ["internal/abi.NoEscape", "internal/bytealg.abigen_runtime_cmpstring"], unfollowed := true, recurses := true, apart := false }
def CastLastSaid : Prop := castLastRow.holds Try.pinned (OpenSpec.ofChange castLastSpec)

/-- ITS FALSE NEIGHBOUR: 'it returns false'. Refute it at one input. -/
def castLastWrong : ChangeSpec := { name := "castLast", fn := fun _ => fun
  | [d1, d2] => { results := [.lit (.bool false)], args := [d1, d2] }
  | _ => none }
def CastLastWrongFalsely : Prop := castLastRow.holds Try.pinned (OpenSpec.ofChange castLastWrong)

/-- 'bournelaw29.CastTells': WHATEVER THE INPUT: true; the input reads as it did. -/
def castTellsSpec : ChangeSpec := { name := "castTells", fn := fun _ => fun
  | [d1, d2, d3, d4] => { results := [.lit (.bool true)], args := [d1, d2, d3, d4] }
  | _ => none }
def castTellsRow : OpenClaim := { program := "ytleiiedacachjaa", sum := "f315567aa0e2c001bc381c23917aa7002b7b725da13d6ddad182c8fc137e3c09", func := "bourne/bournelaw29.CastTells", spec := "castTells", inPlace := ["internal/abi.NoEscape", "internal/bytealg.abigen_runtime_cmpstring"], unfollowed := true, recurses := true, apart := false }
def CastTellsSaid : Prop := castTellsRow.holds Try.pinned (OpenSpec.ofChange castTellsSpec)

/-- ITS FALSE NEIGHBOUR: 'it returns false'. Refute it at one input. -/
def castTellsWrong : ChangeSpec := { name := "castTells", fn := fun _ => fun
  | [d1, d2, d3, d4] => { results := [.lit (.bool false)], args := [d1, d2, d3, d4] }
  | _ => none }
def CastTellsWrongFalsely : Prop := castTellsRow.holds Try.pinned (OpenSpec.ofChange castTellsWrong)

/- THE SECOND FORM. 'bulk': how many values and letters a reading holds, each counted each time it is reached (what is shared counts as often as it is met; a slice's spare places count too). A statement '..UptoSaid' is the law's where the arguments, and the package variables that the reading takes, are together of bulk at most 1048576: NARROWER than '..Said'. Prove '..Said' where nothing that the law and all that it calls make is longer than what came in: it says more and counts as full. Else prove '..UptoSaid'. A law counts once. -/
mutual
def uptoBulk {H : Type} : DataW H → Nat
  | .lit (.string bytes) => bytes.length + 1
  | .lit _ => 1
  | .nil => 1
  | .ptr d => uptoBulk d + 1
  | .slice elems spare => uptoBulkAll elems + uptoBulkAll spare + 1
  | .agg parts => uptoBulkAll parts + 1
  | .iface _ d => uptoBulk d + 1
  | .map entries => uptoBulkEntries entries + 1
  | .held _ => 1
def uptoBulkAll {H : Type} : List (DataW H) → Nat
  | [] => 0
  | d :: r => uptoBulk d + uptoBulkAll r
def uptoBulkEntries {H : Type} : List (Lit × DataW H) → Nat
  | [] => 0
  | x :: r => uptoBulkEntry x + uptoBulkEntries r
def uptoBulkEntry {H : Type} : Lit × DataW H → Nat
  | (.string bytes, d) => bytes.length + uptoBulk d + 1
  | (_, d) => uptoBulk d + 1
 end
def uptoSmall : (H : Type) → List (DataW H) → Bool := fun _ ds => decide (uptoBulkAll ds ≤ 1048576)
def OpenSpec.upto (s : _root_.Go.ChangeSpec) : _root_.Go.OpenSpec := { _root_.Go.OpenSpec.ofChange s with cond := some uptoSmall }

/-- 'bournelaw29.CastReplays', WHERE WHAT IT READS IS OF BULK AT MOST 1048576: true; the input reads as it did. -/
def castReplaysUptoRow : OpenClaim := { program := "ytleiiedacachjaa", sum := "f315567aa0e2c001bc381c23917aa7002b7b725da13d6ddad182c8fc137e3c09", func := "bourne/bournelaw29.CastReplays", spec := "castReplays", inPlace := ["internal/abi.NoEscape"], unfollowed := true, recurses := true, apart := false, narrowed := true }
def CastReplaysUptoSaid : Prop := castReplaysUptoRow.holds Try.pinned (OpenSpec.upto castReplaysSpec)

/-- 'bournelaw29.CastAside', WHERE WHAT IT READS IS OF BULK AT MOST 1048576: true; the input reads as it did. -/
def castAsideUptoRow : OpenClaim := { program := "ytleiiedacachjaa", sum := "f315567aa0e2c001bc381c23917aa7002b7b725da13d6ddad182c8fc137e3c09", func := "bourne/bournelaw29.CastAside", spec := "castAside", inPlace := ["internal/abi.NoEscape"], unfollowed := true, recurses := true, apart := false, narrowed := true }
def CastAsideUptoSaid : Prop := castAsideUptoRow.holds Try.pinned (OpenSpec.upto castAsideSpec)

/-- 'bournelaw29.CastOrders', WHERE WHAT IT READS IS OF BULK AT MOST 1048576: true; the input reads as it did. -/
def castOrdersUptoRow : OpenClaim := { program := "ytleiiedacachjaa", sum := "f315567aa0e2c001bc381c23917aa7002b7b725da13d6ddad182c8fc137e3c09", func := "bourne/bournelaw29.CastOrders", spec := "castOrders", inPlace := ["internal/abi.NoEscape"], unfollowed := true, recurses := true, apart := false, narrowed := true }
def CastOrdersUptoSaid : Prop := castOrdersUptoRow.holds Try.pinned (OpenSpec.upto castOrdersSpec)

/-- 'bournelaw29.CastCovers', WHERE WHAT IT READS IS OF BULK AT MOST 1048576: true; the input reads as it did. -/
def castCoversUptoRow : OpenClaim := { program := "ytleiiedacachjaa", sum := "f315567aa0e2c001bc381c23917aa7002b7b725da13d6ddad182c8fc137e3c09", func := "bourne/bournelaw29.CastCovers", spec := "castCovers", inPlace := ["internal/abi.NoEscape"], unfollowed := true, recurses := true, apart := false, narrowed := true }
def CastCoversUptoSaid : Prop := castCoversUptoRow.holds Try.pinned (OpenSpec.upto castCoversSpec)

/-- 'bournelaw29.CastLast', WHERE WHAT IT READS IS OF BULK AT MOST 1048576: true; the input reads as it did. -/
def castLastUptoRow : OpenClaim := { program := "ytleiiedacachjaa", sum := "f315567aa0e2c001bc381c23917aa7002b7b725da13d6ddad182c8fc137e3c09", func := "bourne/bournelaw29.CastLast", spec := "castLast", inPlace := ["internal/abi.NoEscape", "internal/bytealg.abigen_runtime_cmpstring"], unfollowed := true, recurses := true, apart := false, narrowed := true }
def CastLastUptoSaid : Prop := castLastUptoRow.holds Try.pinned (OpenSpec.upto castLastSpec)

/-- 'bournelaw29.CastTells', WHERE WHAT IT READS IS OF BULK AT MOST 1048576: true; the input reads as it did. -/
def castTellsUptoRow : OpenClaim := { program := "ytleiiedacachjaa", sum := "f315567aa0e2c001bc381c23917aa7002b7b725da13d6ddad182c8fc137e3c09", func := "bourne/bournelaw29.CastTells", spec := "castTells", inPlace := ["internal/abi.NoEscape", "internal/bytealg.abigen_runtime_cmpstring"], unfollowed := true, recurses := true, apart := false, narrowed := true }
def CastTellsUptoSaid : Prop := castTellsUptoRow.holds Try.pinned (OpenSpec.upto castTellsSpec)

end Rows
end Go.Proofs.Ytleiiedacachjaa
