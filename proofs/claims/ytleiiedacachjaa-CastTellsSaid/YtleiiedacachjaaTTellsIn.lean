/- bournelaw29.CastTells at arguments that came in. -/
import Derived.Test.YtleiiedacachjaaTTells
import Derived.Test.YtleiiedacachjaaTCods
namespace Go.Proofs.Ytleiiedacachjaa
open Go.RowKit
theorem tells_in (v : Value) (l : List NewsV) (h pl : Int) (vf : Value) (fl : List Int) (w : World) (ha : LArg RNews 5 v l w) (hh : I64 h) (hf : LArg RInt 1 vf fl w) :
    Calls Try.prog 8 #[v, .int .i64 h, .int .i64 pl, vf] w fun e w' => e = .returned (.bool true) ∧ Below w.heap.size w w' := by
  obtain ⟨L, a, c, rfl, hl, hc1, hc2, hat, hr, hI⟩ := cods_in ha
  exact tells_core L a c h pl fl vf w hat hr hI (by omega) hh hf
end Go.Proofs.Ytleiiedacachjaa
