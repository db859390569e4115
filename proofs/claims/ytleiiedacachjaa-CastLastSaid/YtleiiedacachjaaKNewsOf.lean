/- A list of news that came in, with the values of their rain. -/
import Derived.Test.YtleiiedacachjaaKRepL
import Derived.Test.YtleiiedacachjaaKArgs
namespace Go.Proofs.Ytleiiedacachjaa
open Go.RowKit
/-- a list of news that came in, with the values of their rain -/
theorem newsS_of {l : List NewsV} {a : Option Addr} {n c : Nat} {w : World} (h : LArg RNews 5 (.slice a n c) l w) : (∃ vs, NewsS l vs a w) ∧ ∀ x ∈ l, NewsI x := by
  refine ⟨?_, fun x hx => ?_⟩
  · obtain ⟨vs, hvl, hv⟩ := choose_list (fun i (u : Value) => ∀ x, l[i]? = some x → ∃ b o, a = some ⟨b, o, none⟩ ∧ b < w.heap.size ∧ w.rangeAt b (o + i * 5) (cellsN x u) ∧ LArg (RList RSpan 2) 1 u x.cast.rain w) l.length (fun i hi => by
      obtain ⟨b, o, cs, h1, h2, h3, h4, h5⟩ := h.at (List.getElem?_eq_getElem hi)
      obtain ⟨-, u, rfl, hu⟩ := news_ok h5
      refine ⟨u, fun x hx => ?_⟩
      rw [List.getElem?_eq_getElem hi] at hx
      cases hx
      exact ⟨b, o, h1, h2, h4, hu⟩)
    refine ⟨vs, hvl, fun i x hx => ?_⟩
    have hi : i < vs.length := by rw [hvl]; exact (List.getElem?_eq_some_iff.1 hx).1
    obtain ⟨b, o, h1, h2, h3, h4⟩ := hv i vs[i] (List.getElem?_eq_getElem hi) x hx
    exact ⟨vs[i], b, o, List.getElem?_eq_getElem hi, h1, h2, h3, h4⟩
  · obtain ⟨i, hi⟩ := List.getElem?_of_mem hx
    obtain ⟨b, o, cs, -, -, -, -, h5⟩ := h.at hi
    exact (news_ok h5).1
end Go.Proofs.Ytleiiedacachjaa
