/- bournelaw29.CastOrders at two news that came in. -/
import Derived.Test.YtleiiedacachjaaKOrders
import Derived.Test.YtleiiedacachjaaKArgs
namespace Go.Proofs.Ytleiiedacachjaa
open Go.RowKit
theorem orders_in (a : NewsV) (cs : List Value) (b : NewsV) (ds : List Value) (w : World) (ha : RNews a cs w) (hb : RNews b ds w) :
    Calls Try.prog 5 #[.agg cs.toArray, .agg ds.toArray] w fun e w' => e = .returned (.bool true) ∧ Below w.heap.size w w' := by
  obtain ⟨na, va, rfl, la⟩ := news_ok ha
  obtain ⟨nb, vb, rfl, lb⟩ := news_ok hb
  obtain ⟨a0, qa, rfl, -, -⟩ := la.slice
  obtain ⟨b0, qb, rfl, -, -⟩ := lb.slice
  exact orders_core a b a0 b0 qa qb w la lb na nb
end Go.Proofs.Ytleiiedacachjaa
