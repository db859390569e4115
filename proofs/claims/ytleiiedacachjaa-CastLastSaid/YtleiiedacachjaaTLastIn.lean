/- bournelaw29.CastLast at a list of news that came in. -/
import Derived.Test.YtleiiedacachjaaTLast
import Derived.Test.YtleiiedacachjaaTCods
namespace Go.Proofs.Ytleiiedacachjaa
open Go.RowKit
theorem last_in (v : Value) (l : List NewsV) (h : Int) (w : World) (ha : LArg RNews 5 v l w) :
    Calls Try.prog 7 #[v, .int .i64 h] w fun e w' => e = .returned (.bool true) ∧ Below w.heap.size w w' := by
  obtain ⟨L, a, c, rfl, hl, hc1, hc2, hat, hr, hI⟩ := cods_in ha
  exact last_core L a c h w hat hr hI (by omega)
end Go.Proofs.Ytleiiedacachjaa
