/- Texts merged: KArgs KNewsOf TCods -/
import Derived.Test.YtleiiedacachjaaKAdm
import Derived.Test.YtleiiedacachjaaKRepL
import Derived.Test.YtleiiedacachjaaTOrder
/- News and forecasts that came in. -/
namespace Go.Proofs.Ytleiiedacachjaa
open Go.RowKit
theorem spans_ok {v : Value} {l : List (List SpanV)} {w : World} (h : LArg (RList RSpan 2) 1 v l w) : ∀ r ∈ l, SpanI r := fun r hr s hs => by
  obtain ⟨a, c, rfl, -, -⟩ := h.slice
  obtain ⟨i, hi⟩ := List.getElem?_of_mem hr
  obtain ⟨b, o, cs, -, -, -, -, u, rfl, hrow⟩ := h.at hi
  obtain ⟨a1, c1, rfl, -, -⟩ := hrow.slice
  obtain ⟨j, hj⟩ := List.getElem?_of_mem hs
  obtain ⟨b2, o2, cs2, -, -, -, -, -, h1, h2⟩ := hrow.at hj
  exact ⟨h1, h2⟩
theorem news_ok {x : NewsV} {cs : List Value} {w : World} (h : RNews x cs w) : NewsI x ∧ ∃ v0, cs = [.int .i64 x.kind, .int .i64 x.known, .int .i64 x.cast.id, .int .i64 x.cast.src, v0] ∧ LArg (RList RSpan 2) 1 v0 x.cast.rain w := by
  obtain ⟨v0, rfl, h1, h2, h3, h4, hl⟩ := h
  exact ⟨⟨⟨h1, h2, h3, h4⟩, spans_ok hl⟩, v0, rfl, hl⟩
end Go.Proofs.Ytleiiedacachjaa
/- A list of news that came in, with the values of their rain. -/
namespace Go.Proofs.Ytleiiedacachjaa
open Go.RowKit
/-- a list of news that came in, with the values of their rain -/
theorem newsS_of {l : List NewsV} {a : Option Addr} {n c : Nat} {w : World} (h : LArg RNews 5 (.slice a n c) l w) : (∃ vs, NewsS l vs a w) ∧ ∀ x ∈ l, NewsI x := by
  refine ⟨?_, fun x hx => ?_⟩
  · obtain ⟨vs, hvl, hv⟩ := choose_list (fun i (u : Value) => ∀ x, l[i]? = some x → ∃ b o, a = some ⟨b, o, none⟩ ∧ b < w.heap.size ∧ w.rangeAt b (o + i * 5) (cellsN x u) ∧ LArg (RList RSpan 2) 1 u x.cast.rain w) l.length (fun i hi => by
      obtain ⟨b, o, cs, h1, h2, h3, h4, h5⟩ := h.at (List.getElem?_eq_getElem hi)
      obtain ⟨-, u, rfl, hu⟩ := news_ok h5
      refine ⟨u, fun x hx => ?_⟩
      rw [List.getElem?_eq_getElem hi] at hx
      cases hx
      exact ⟨b, o, h1, h2, h4, hu⟩)
    refine ⟨vs, hvl, fun i x hx => ?_⟩
    have hi : i < vs.length := by rw [hvl]; exact (List.getElem?_eq_some_iff.1 hx).1
    obtain ⟨b, o, h1, h2, h3, h4⟩ := hv i vs[i] (List.getElem?_eq_getElem hi) x hx
    exact ⟨vs[i], b, o, List.getElem?_eq_getElem hi, h1, h2, h3, h4⟩
  · obtain ⟨i, hi⟩ := List.getElem?_of_mem hx
    obtain ⟨b, o, cs, -, -, -, -, h5⟩ := h.at hi
    exact (news_ok h5).1
end Go.Proofs.Ytleiiedacachjaa
/- News that came in, as the entries that the order sorts. -/
namespace Go.Proofs.Ytleiiedacachjaa
open Go.RowKit
theorem cods_of : ∀ (E : List Ent), (∀ q ∈ E, ∃ a c, q.2 = .slice a q.1.cast.rain.length c) → ∃ L : List CodE, L.map entC = E
  | [], _ => ⟨[], rfl⟩
  | q :: E, h => by
    obtain ⟨a, c, e⟩ := h q (List.mem_cons_self ..)
    obtain ⟨L, hL⟩ := cods_of E (fun p hp => h p (List.mem_cons_of_mem _ hp))
    obtain ⟨x, u⟩ := q
    simp only at e
    exact ⟨⟨x, a, c⟩ :: L, by rw [List.map_cons, hL, e]; rfl⟩
/-- what the walks of the order want of a list that came in -/
theorem cods_in {v : Value} {l : List NewsV} {w : World} (ha : LArg RNews 5 v l w) : ∃ (L : List CodE) (a : Option Addr) (c : Nat), v = .slice a L.length c ∧ L.length = l.length ∧ L.length ≤ c ∧ c ≤ 9223372036854775807 ∧
    (∀ (i : Nat) (q : CodE), L[i]? = some q → ∃ b o, a = some ⟨b, o, none⟩ ∧ b < w.heap.size ∧ w.rangeAt b (o + i * 5) (cellsQ q)) ∧
    (∀ q ∈ L, LArg (RList RSpan 2) 1 (.slice q.a q.x.cast.rain.length q.c) q.x.cast.rain w) ∧ ∀ q ∈ L, NewsI q.x := by
  obtain ⟨a, c, rfl, hc1, hc2⟩ := ha.slice
  have hc3 : c ≤ 9223372036854775807 := by unfold maxLen at hc2; omega
  obtain ⟨⟨vs, hS⟩, hI⟩ := newsS_of ha
  obtain ⟨E, he, hel, hr, hat⟩ := ents_of hS
  obtain ⟨L, hL⟩ := cods_of E (fun q hq => by
    obtain ⟨a, c, e, _⟩ := (hr q hq).slice
    exact ⟨a, c, e⟩)
  have hlen : L.length = l.length := by rw [← hel, ← hL, List.length_map]
  refine ⟨L, a, c, by rw [hlen], hlen, by rw [hlen]; exact hc1, hc3, fun i q hq => ?_, fun q hq => ?_, fun q hq => ?_⟩
  · exact hat i (entC q) (by rw [← hL, List.getElem?_map, hq]; rfl)
  · exact hr (entC q) (by rw [← hL]; exact List.mem_map_of_mem hq)
  · refine hI q.x ?_
    rw [← he, ← hL, List.map_map]
    exact List.mem_map.2 ⟨q, hq, rfl⟩
end Go.Proofs.Ytleiiedacachjaa
