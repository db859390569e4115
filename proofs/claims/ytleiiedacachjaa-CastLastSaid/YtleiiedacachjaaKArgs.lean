/- News and forecasts that came in. -/
import Derived.Test.YtleiiedacachjaaKAdm
namespace Go.Proofs.Ytleiiedacachjaa
open Go.RowKit
theorem spans_ok {v : Value} {l : List (List SpanV)} {w : World} (h : LArg (RList RSpan 2) 1 v l w) : ∀ r ∈ l, SpanI r := fun r hr s hs => by
  obtain ⟨a, c, rfl, -, -⟩ := h.slice
  obtain ⟨i, hi⟩ := List.getElem?_of_mem hr
  obtain ⟨b, o, cs, -, -, -, -, u, rfl, hrow⟩ := h.at hi
  obtain ⟨a1, c1, rfl, -, -⟩ := hrow.slice
  obtain ⟨j, hj⟩ := List.getElem?_of_mem hs
  obtain ⟨b2, o2, cs2, -, -, -, -, -, h1, h2⟩ := hrow.at hj
  exact ⟨h1, h2⟩
theorem news_ok {x : NewsV} {cs : List Value} {w : World} (h : RNews x cs w) : NewsI x ∧ ∃ v0, cs = [.int .i64 x.kind, .int .i64 x.known, .int .i64 x.cast.id, .int .i64 x.cast.src, v0] ∧ LArg (RList RSpan 2) 1 v0 x.cast.rain w := by
  obtain ⟨v0, rfl, h1, h2, h3, h4, hl⟩ := h
  exact ⟨⟨⟨h1, h2, h3, h4⟩, spans_ok hl⟩, v0, rfl, hl⟩
end Go.Proofs.Ytleiiedacachjaa
