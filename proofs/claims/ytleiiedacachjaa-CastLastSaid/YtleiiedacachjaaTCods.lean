/- News that came in, as the entries that the order sorts. -/
import Derived.Test.YtleiiedacachjaaTOrder
import Derived.Test.YtleiiedacachjaaKNewsOf
import Derived.Test.YtleiiedacachjaaKArgs
namespace Go.Proofs.Ytleiiedacachjaa
open Go.RowKit
theorem cods_of : ∀ (E : List Ent), (∀ q ∈ E, ∃ a c, q.2 = .slice a q.1.cast.rain.length c) → ∃ L : List CodE, L.map entC = E
  | [], _ => ⟨[], rfl⟩
  | q :: E, h => by
    obtain ⟨a, c, e⟩ := h q (List.mem_cons_self ..)
    obtain ⟨L, hL⟩ := cods_of E (fun p hp => h p (List.mem_cons_of_mem _ hp))
    obtain ⟨x, u⟩ := q
    simp only at e
    exact ⟨⟨x, a, c⟩ :: L, by rw [List.map_cons, hL, e]; rfl⟩
/-- what the walks of the order want of a list that came in -/
theorem cods_in {v : Value} {l : List NewsV} {w : World} (ha : LArg RNews 5 v l w) : ∃ (L : List CodE) (a : Option Addr) (c : Nat), v = .slice a L.length c ∧ L.length = l.length ∧ L.length ≤ c ∧ c ≤ 9223372036854775807 ∧
    (∀ (i : Nat) (q : CodE), L[i]? = some q → ∃ b o, a = some ⟨b, o, none⟩ ∧ b < w.heap.size ∧ w.rangeAt b (o + i * 5) (cellsQ q)) ∧
    (∀ q ∈ L, LArg (RList RSpan 2) 1 (.slice q.a q.x.cast.rain.length q.c) q.x.cast.rain w) ∧ ∀ q ∈ L, NewsI q.x := by
  obtain ⟨a, c, rfl, hc1, hc2⟩ := ha.slice
  have hc3 : c ≤ 9223372036854775807 := by unfold maxLen at hc2; omega
  obtain ⟨⟨vs, hS⟩, hI⟩ := newsS_of ha
  obtain ⟨E, he, hel, hr, hat⟩ := ents_of hS
  obtain ⟨L, hL⟩ := cods_of E (fun q hq => by
    obtain ⟨a, c, e, _⟩ := (hr q hq).slice
    exact ⟨a, c, e⟩)
  have hlen : L.length = l.length := by rw [← hel, ← hL, List.length_map]
  refine ⟨L, a, c, by rw [hlen], hlen, by rw [hlen]; exact hc1, hc3, fun i q hq => ?_, fun q hq => ?_, fun q hq => ?_⟩
  · exact hat i (entC q) (by rw [← hL, List.getElem?_map, hq]; rfl)
  · exact hr (entC q) (by rw [← hL]; exact List.mem_map_of_mem hq)
  · refine hI q.x ?_
    rw [← he, ← hL, List.map_map]
    exact List.mem_map.2 ⟨q, hq, rfl⟩
end Go.Proofs.Ytleiiedacachjaa
