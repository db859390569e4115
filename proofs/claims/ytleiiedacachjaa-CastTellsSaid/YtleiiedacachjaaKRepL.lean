/- Lists of news with the values of their rain: what a slice of the call's own holds; the plain law of CastReplays. -/
import Derived.Test.YtleiiedacachjaaKAdm
import Derived.Test.YtleiiedacachjaaKSameA
namespace Go.Proofs.Ytleiiedacachjaa
open Go.RowKit
abbrev Ent := NewsV × Value
def cellsE (q : Ent) : List Value := cellsN q.1 q.2
theorem cellsE_len (q : Ent) : (cellsE q).length = 5 := rfl
theorem flatE_len (l : List Ent) : (l.flatMap cellsE).length = l.length * 5 := by
  induction l with
  | nil => rfl
  | cons q l ih => rw [List.flatMap_cons, List.length_append, ih, cellsE_len, List.length_cons]; omega
theorem flat_getE : ∀ (l : List Ent) (k : Nat) (x : Ent), l[k]? = some x → ∀ j v, (cellsE x)[j]? = some v → (l.flatMap cellsE)[k * 5 + j]? = some v
  | [], k, x, h, _, _, _ => by simp at h
  | y :: l, 0, x, h, j, v, hj => by
    simp only [List.getElem?_cons_zero, Option.some.injEq] at h
    subst h
    have hl := (List.getElem?_eq_some_iff.1 hj).1
    rw [List.flatMap_cons, Nat.zero_mul, Nat.zero_add, List.getElem?_append_left hl, hj]
  | y :: l, k + 1, x, h, j, v, hj => by
    have h8 : (cellsE y).length = 5 := rfl
    rw [List.flatMap_cons, List.getElem?_append_right (by rw [h8]; omega), h8]
    have e : (k + 1) * 5 + j - 5 = k * 5 + j := by omega
    rw [e]
    exact flat_getE l k x (by simpa using h) j v hj
theorem ownsE_at {base : Nat} {v : Value} {w : World} {e : TypeId} {E : List Ent} (h : w.ownsRow base e 5 v E.length (E.flatMap cellsE)) : ∃ a c, v = .slice a E.length c ∧ ∀ (i : Nat) (q : Ent), E[i]? = some q → ∃ g, a = some ⟨g, 0, none⟩ ∧ base ≤ g ∧ g < w.heap.size ∧ w.rangeAt g (0 + i * 5) (cellsE q) := by
  rcases h.2 with ⟨rfl, h0⟩ | ⟨g, cap, cur, rfl, hg, hh, hnc, hcm, hcs, htk⟩
  · exact ⟨none, 0, by rw [h0], fun i q hq => by rw [List.eq_nil_of_length_eq_zero h0] at hq; simp at hq⟩
  · refine ⟨_, _, rfl, fun i q hq => ⟨g, rfl, hg, blk_lt hh, fun j u hu => ?_⟩⟩
    have h1 := flat_getE E i q hq j u hu
    rw [← htk, List.getElem?_take] at h1
    split at h1
    · rw [Nat.zero_add, cell_of_row _ _ _ _ _ _ hh, ← Array.getElem?_toList]
      exact h1
    · cases h1
/-- a slice of the call's own, as news -/
theorem newsS_owns {base : Nat} {v : Value} {w : World} {e : TypeId} {E : List Ent} (h : w.ownsRow base e 5 v E.length (E.flatMap cellsE)) (hr : ∀ q ∈ E, LArg (RList RSpan 2) 1 q.2 q.1.cast.rain w) :
    ∃ a c, v = .slice a (E.map (·.1)).length c ∧ NewsS (E.map (·.1)) (E.map (·.2)) a w := by
  obtain ⟨a, c, rfl, hat⟩ := ownsE_at h
  refine ⟨a, c, by rw [List.length_map], by rw [List.length_map, List.length_map], fun i x hx => ?_⟩
  rw [List.getElem?_map, Option.map_eq_some_iff] at hx
  obtain ⟨q, hq, rfl⟩ := hx
  obtain ⟨g, rfl, _, h2, h3⟩ := hat i q hq
  exact ⟨q.2, g, 0, by rw [List.getElem?_map, hq]; rfl, rfl, h2, h3, hr q (List.mem_of_getElem? hq)⟩
/-- the news that came in, with the values of their rain -/
theorem ents_of {xs : List NewsV} {vs : List Value} {a : Option Addr} {w : World} (h : NewsS xs vs a w) : ∃ E : List Ent, E.map (·.1) = xs ∧ E.length = xs.length ∧ (∀ q ∈ E, LArg (RList RSpan 2) 1 q.2 q.1.cast.rain w) ∧
    ∀ (i : Nat) (q : Ent), E[i]? = some q → ∃ b o, a = some ⟨b, o, none⟩ ∧ b < w.heap.size ∧ w.rangeAt b (o + i * 5) (cellsE q) := by
  have hz : ∀ (i : Nat) (q : Ent), (xs.zip vs)[i]? = some q → xs[i]? = some q.1 ∧ vs[i]? = some q.2 := fun i q hq => by
    rw [List.getElem?_zip_eq_some] at hq
    exact hq
  have key : ∀ (i : Nat) (q : Ent), (xs.zip vs)[i]? = some q → ∃ b o, a = some ⟨b, o, none⟩ ∧ b < w.heap.size ∧ w.rangeAt b (o + i * 5) (cellsE q) ∧ LArg (RList RSpan 2) 1 q.2 q.1.cast.rain w := fun i q hq => by
    obtain ⟨h1, h2⟩ := hz i q hq
    obtain ⟨u, b, o, e1, e2, e3, e4, e5⟩ := h.2 i q.1 h1
    rw [h2] at e1
    cases e1
    exact ⟨b, o, e2, e3, e4, e5⟩
  refine ⟨xs.zip vs, List.map_fst_zip (by rw [h.1]; exact Nat.le_refl _), by rw [List.length_zip, h.1, Nat.min_self], fun q hq => ?_, fun i q hq => ?_⟩
  · obtain ⟨i, hi⟩ := List.getElem?_of_mem hq
    obtain ⟨_, _, _, _, _, h5⟩ := key i q hi
    exact h5
  · obtain ⟨b, o, h1, h2, h3, _⟩ := key i q hq
    exact ⟨b, o, h1, h2, h3⟩
/-- the cells of a part of the news that came in -/
theorem part_cells {E : List Ent} {w : World} {b o : Nat} (h : ∀ (i : Nat) (q : Ent), E[i]? = some q → w.rangeAt b (o + i * 5) (cellsE q)) (n : Nat) (F : List Ent) (hF : ∀ (i : Nat) (q : Ent), F[i]? = some q → E[n + i]? = some q) :
    ∀ j u, (F.flatMap cellsE)[j]? = some u → w.cell? ((⟨b, o + n * 5, none⟩ : Addr).add j) = some u := fun j u hj => by
  have hjl : j < F.length * 5 := by rw [← flatE_len]; exact (List.getElem?_eq_some_iff.1 hj).1
  obtain ⟨q, hq⟩ : ∃ q, F[j / 5]? = some q := ⟨_, List.getElem?_eq_getElem (by omega)⟩
  obtain ⟨v, hv⟩ : ∃ v, (cellsE q)[j % 5]? = some v := ⟨_, List.getElem?_eq_getElem (by rw [cellsE_len]; omega)⟩
  have e := flat_getE F _ q hq _ v hv
  have ej : j / 5 * 5 + j % 5 = j := by omega
  rw [ej, hj] at e
  cases e
  have h3 := h (n + j / 5) q (hF _ q hq) (j % 5) u hv
  rw [Addr.add_mid]
  have e2 : o + (n + j / 5) * 5 + j % 5 = o + n * 5 + j := by omega
  rw [← e2]
  exact h3
def knownE (h : Int) (E : List Ent) : List Ent := E.reverse.filter fun q => decide (q.1.known ≤ h)
theorem known_step {h : Int} {E : List Ent} {k : Nat} {q : Ent} (hq : E[k]? = some q) : knownE h (E.drop k) = knownE h (E.drop (k + 1)) ++ (if q.1.known ≤ h then [q] else []) := by
  obtain ⟨hk, e⟩ := List.getElem?_eq_some_iff.1 hq
  unfold knownE
  rw [List.drop_eq_getElem_cons hk, e, List.reverse_cons, List.filter_append]
  congr 1
  by_cases hc : q.1.known ≤ h
  · rw [if_pos hc, List.filter_cons_of_pos (by simpa using hc), List.filter_nil]
  · rw [if_neg hc, List.filter_cons_of_neg (by simpa using hc), List.filter_nil]
theorem mem_known {h : Int} {E : List Ent} {x : NewsV} (hc : CountsN h x) : x ∈ (knownE h E).map (·.1) ↔ x ∈ E.map (·.1) := by
  unfold knownE
  simp only [List.mem_map, List.mem_filter, List.mem_reverse, decide_eq_true_eq]
  constructor
  · rintro ⟨q, ⟨h1, _⟩, rfl⟩
    exact ⟨q, h1, rfl⟩
  · rintro ⟨q, h1, rfl⟩
    exact ⟨q, ⟨h1, hc.2.2⟩, rfl⟩
end Go.Proofs.Ytleiiedacachjaa
