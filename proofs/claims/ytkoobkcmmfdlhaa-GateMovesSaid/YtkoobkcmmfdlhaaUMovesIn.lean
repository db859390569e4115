/- bournelaw19.GateMoves at a link and a gate that came in. -/
import Derived.Test.YtkoobkcmmfdlhaaUMoves
namespace Go.Proofs.Ytkoobkcmmfdlhaa
open Go.RowKit
theorem moves_in (l : LinkV) (cs : List Value) (g : GateV) (ds : List Value) (n : Int) (w : World) (hl : RLink l cs w) (hg : RGate g ds w) (hn : -9223372036854775808 ≤ n ∧ n ≤ 9223372036854775807) :
    Calls Try.prog 3 #[.agg cs.toArray, .agg ds.toArray, .int .i64 n] w fun e w' => e = .returned (.bool true) ∧ Below w.heap.size w w' := by
  obtain ⟨v0, v1, v2, rfl, -, -, -, -, -, hs, -, -, -, -, -, -, -, -, -, h1, h2, h3⟩ := hl
  obtain ⟨rfl, hp, ht⟩ := hg
  obtain ⟨p, t, s, o⟩ := g
  exact moves_core l v0 v1 v2 p t s o n w hn hs hp ht h1 h2 h3
end Go.Proofs.Ytkoobkcmmfdlhaa
