/- bournelaw29.CastCovers at arguments that came in. -/
import Derived.Test.YtleiiedacachjaaKCovers
import Derived.Test.YtleiiedacachjaaKBulk
namespace Go.Proofs.Ytleiiedacachjaa
open Go.RowKit
theorem covers_in (x : CastV) (cs : List Value) (h : Int) (vf : Value) (fl : List Int) (i : Int) (w : World) (hx : RCast x cs w) (hh : I64 h) (hf : LArg RInt 1 vf fl w) (hn : fl.length ≤ 1048576) :
    Calls Try.prog 6 #[.agg cs.toArray, .int .i64 h, vf, .int .i64 i] w fun e w' => e = .returned (.bool true) ∧ Below w.heap.size w w' := by
  obtain ⟨v0, rfl, -, hs, hr⟩ := hx
  obtain ⟨a0, q0, rfl, -, -⟩ := hr.slice
  obtain ⟨af, qf, rfl, -, -⟩ := hf.slice
  exact covers_core x a0 q0 h fl af qf i w hr hf hh hs hn
end Go.Proofs.Ytleiiedacachjaa
