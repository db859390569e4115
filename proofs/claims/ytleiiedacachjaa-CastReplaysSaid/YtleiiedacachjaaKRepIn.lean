/- bournelaw29.CastReplays at a list of news that came in. -/
import Derived.Test.YtleiiedacachjaaKRepNil
import Derived.Test.YtleiiedacachjaaKArgs
namespace Go.Proofs.Ytleiiedacachjaa
open Go.RowKit
/-- a list of news that came in, with the values of their rain -/
theorem newsS_of {l : List NewsV} {a : Option Addr} {n c : Nat} {w : World} (h : LArg RNews 5 (.slice a n c) l w) : (∃ vs, NewsS l vs a w) ∧ ∀ x ∈ l, NewsI x := by
  refine ⟨?_, fun x hx => ?_⟩
  · obtain ⟨vs, hvl, hv⟩ := choose_list (fun i (u : Value) => ∀ x, l[i]? = some x → ∃ b o, a = some ⟨b, o, none⟩ ∧ b < w.heap.size ∧ w.rangeAt b (o + i * 5) (cellsN x u) ∧ LArg (RList RSpan 2) 1 u x.cast.rain w) l.length (fun i hi => by
      obtain ⟨b, o, cs, h1, h2, h3, h4, h5⟩ := h.at (List.getElem?_eq_getElem hi)
      obtain ⟨-, u, rfl, hu⟩ := news_ok h5
      refine ⟨u, fun x hx => ?_⟩
      rw [List.getElem?_eq_getElem hi] at hx
      cases hx
      exact ⟨b, o, h1, h2, h4, hu⟩)
    refine ⟨vs, hvl, fun i x hx => ?_⟩
    have hi : i < vs.length := by rw [hvl]; exact (List.getElem?_eq_some_iff.1 hx).1
    obtain ⟨b, o, h1, h2, h3, h4⟩ := hv i vs[i] (List.getElem?_eq_getElem hi) x hx
    exact ⟨vs[i], b, o, List.getElem?_eq_getElem hi, h1, h2, h3, h4⟩
  · obtain ⟨i, hi⟩ := List.getElem?_of_mem hx
    obtain ⟨b, o, cs, -, -, -, -, h5⟩ := h.at hi
    exact (news_ok h5).1
theorem replays_in (v : Value) (l : List NewsV) (n h : Int) (w : World) (ha : LArg RNews 5 v l w) :
    Calls Try.prog 3 #[v, .int .i64 n, .int .i64 h] w fun e w' => e = .returned (.bool true) ∧ Below w.heap.size w w' := by
  obtain ⟨a, c, rfl, hc1, hc2⟩ := ha.slice
  have hc3 : c ≤ 9223372036854775807 := by unfold maxLen at hc2; omega
  obtain ⟨⟨vs, hS⟩, hI⟩ := newsS_of ha
  cases l with
  | nil =>
    cases a with
    | none =>
      cases c with
      | zero => exact replays_nil n h w
      | succ c => exact replays_nilc c hc3 n h w
    | some a =>
      cases c with
      | zero => exact replays_zero a n h w
      | succ c => exact replays_empty a c hc3 n h w
  | cons x r =>
    obtain ⟨b, o, _, rfl, -⟩ := ha.at (j := 0) (x := x) rfl
    obtain ⟨E, he, hel, hr, hat⟩ := ents_of hS
    have hlt : ∀ (i : Nat) (q : Ent), E[i]? = some q → b < w.heap.size := fun i q hq => by
      obtain ⟨b', o', e, h1, -⟩ := hat i q hq
      cases e
      exact h1
    have hrow : ∀ (i : Nat) (q : Ent), E[i]? = some q → w.rangeAt b (o + i * 5) (cellsE q) := fun i q hq => by
      obtain ⟨b', o', e, -, h2⟩ := hat i q hq
      cases e
      exact h2
    have hS' : NewsS (E.map (·.1)) (E.map (·.2)) (some ⟨b, o, none⟩) w := by
      refine ⟨by rw [List.length_map, List.length_map], fun i y hy => ?_⟩
      rw [List.getElem?_map, Option.map_eq_some_iff] at hy
      obtain ⟨q, hq, rfl⟩ := hy
      exact ⟨q.2, b, o, by rw [List.getElem?_map, hq]; rfl, rfl, hlt i q hq, hrow i q hq, hr q (List.mem_of_getElem? hq)⟩
    have hcore := replays_core E b o c n h w hS' hlt hrow hr (fun y hy => hI y (by rw [← he]; exact hy)) ⟨by rw [hel]; exact hc1, hc3⟩
    rw [hel] at hcore
    exact hcore
end Go.Proofs.Ytleiiedacachjaa
