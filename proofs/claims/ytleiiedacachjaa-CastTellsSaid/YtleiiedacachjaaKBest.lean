/- Forecasts: the map of the last news, step by step. Plain. -/
import Derived.Test.YtleiiedacachjaaKMap
import Derived.Test.YtleiiedacachjaaKNews
namespace Go.Proofs.Ytleiiedacachjaa
theorem mem_putM {m : OM} {t : Int} {o : OV} {p : Int × OV} : p ∈ putM m t o ↔ p = (t, o) ∨ (p ∈ m ∧ p.1 ≠ t) := by
  unfold putM
  rw [mem_insM]
  unfold delM
  rw [List.mem_filter]
  simp
/-- what the map holds after k of the news -/
structure BestM (h : Int) (xs : List NewsV) (k : Nat) (m : OM) : Prop where
  sorted : SortedM m
  len : m.length ≤ k
  mem : ∀ p ∈ m, ∃ (j : Nat) (x : NewsV), p.2 = ixO j ∧ xs[j]? = some x ∧ x.cast.id = p.1 ∧ CountsN h x ∧ ∀ (i : Nat) (y : NewsV), i < k → xs[i]? = some y → CountsN h y → y.cast.id = p.1 → LeB (newsB y) (newsB x)
  all : ∀ (i : Nat) (y : NewsV), i < k → xs[i]? = some y → CountsN h y → ∃ o, (y.cast.id, o) ∈ m
theorem best_nil (h : Int) (xs : List NewsV) : BestM h xs 0 [] := ⟨List.Pairwise.nil, Nat.le_refl _, (fun p hp => by cases hp), (fun i y hi => by omega)⟩
theorem best_skip {h : Int} {xs : List NewsV} {k : Nat} {m : OM} {x : NewsV} (hb : BestM h xs k m) (hx : xs[k]? = some x) (hc : ¬ CountsN h x) : BestM h xs (k + 1) m := by
  refine ⟨hb.sorted, by have := hb.len; omega, fun p hp => ?_, fun i y hi hy hcy => ?_⟩
  · obtain ⟨j, z, h1, h2, h3, h4, h5⟩ := hb.mem p hp
    refine ⟨j, z, h1, h2, h3, h4, fun i y hi hy hcy hid => ?_⟩
    rcases Nat.lt_or_eq_of_le (show i ≤ k by omega) with h6 | rfl
    · exact h5 i y h6 hy hcy hid
    · rw [hx] at hy; cases hy; exact absurd hcy hc
  · rcases Nat.lt_or_eq_of_le (show i ≤ k by omega) with h6 | rfl
    · exact hb.all i y h6 hy hcy
    · rw [hx] at hy; cases hy; exact absurd hcy hc
theorem best_keep {h : Int} {xs : List NewsV} {k j : Nat} {m : OM} {x y : NewsV} (hb : BestM h xs k m) (hx : xs[k]? = some x) (hg : getM m x.cast.id = some (ixO j)) (hy : xs[j]? = some y) (hle : LeB (newsB x) (newsB y)) : BestM h xs (k + 1) m := by
  refine ⟨hb.sorted, by have := hb.len; omega, fun p hp => ?_, fun i z hi hz hcz => ?_⟩
  · obtain ⟨a, z, h1, h2, h3, h4, h5⟩ := hb.mem p hp
    refine ⟨a, z, h1, h2, h3, h4, fun i u hi hu hcu hid => ?_⟩
    rcases Nat.lt_or_eq_of_le (show i ≤ k by omega) with h6 | rfl
    · exact h5 i u h6 hu hcu hid
    · rw [hx] at hu
      cases hu
      have e := mem_get hb.sorted hp
      rw [← hid, hg, h1] at e
      have e2 : j = a := by
        have := Option.some.inj e
        unfold ixO at this
        simp only [OV.mk.injEq, Int.natCast_inj] at this
        exact this.1
      subst e2
      rw [hy] at h2
      cases h2
      exact hle
  · rcases Nat.lt_or_eq_of_le (show i ≤ k by omega) with h6 | rfl
    · exact hb.all i z h6 hz hcz
    · rw [hx] at hz
      cases hz
      exact ⟨_, get_mem hg⟩
theorem best_put {h : Int} {xs : List NewsV} {k a : Nat} {m : OM} {x : NewsV} (hb : BestM h xs k m) (hx : xs[k]? = some x) (hc : CountsN h x) (ha : xs[a]? = some x)
    (ho : getM m x.cast.id = none ∨ ∃ (j : Nat) (y : NewsV), getM m x.cast.id = some (ixO j) ∧ xs[j]? = some y ∧ LeB (newsB y) (newsB x)) : BestM h xs (k + 1) (putM m x.cast.id (ixO a)) := by
  refine ⟨sorted_put hb.sorted _ _, by have h1 := putM_len m x.cast.id (ixO a); have h2 := hb.len; omega, fun p hp => ?_, fun i z hi hz hcz => ?_⟩
  · rcases mem_putM.1 hp with rfl | ⟨hp, hne⟩
    · refine ⟨a, x, rfl, ha, rfl, hc, fun i y hi hy hcy hid => ?_⟩
      rcases Nat.lt_or_eq_of_le (show i ≤ k by omega) with h6 | rfl
      · obtain ⟨o, hm⟩ := hb.all i y h6 hy hcy
        have hg := mem_get hb.sorted hm
        simp only at hg hid
        rw [hid] at hg
        rcases ho with ho | ⟨j, z, h1, h2, h3⟩
        · rw [ho] at hg; cases hg
        · obtain ⟨b, u, e1, e2, e3, e4, e5⟩ := hb.mem _ hm
          simp only at e1 e3
          rw [h1] at hg
          have e6 : j = b := by
            have := (Option.some.inj hg).trans e1
            unfold ixO at this
            simp only [OV.mk.injEq, Int.natCast_inj] at this
            exact this.1
          subst e6
          rw [h2] at e2
          cases e2
          exact leB_trans (e5 i y h6 hy hcy rfl) h3
      · rw [hx] at hy; cases hy; exact Or.inl rfl
    · obtain ⟨j, z, h1, h2, h3, h4, h5⟩ := hb.mem p hp
      refine ⟨j, z, h1, h2, h3, h4, fun i y hi hy hcy hid => ?_⟩
      rcases Nat.lt_or_eq_of_le (show i ≤ k by omega) with h6 | rfl
      · exact h5 i y h6 hy hcy hid
      · rw [hx] at hy; cases hy; exact absurd hid.symm hne
  · rcases Nat.lt_or_eq_of_le (show i ≤ k by omega) with h6 | rfl
    · obtain ⟨o, hm⟩ := hb.all i z h6 hz hcz
      by_cases he : z.cast.id = x.cast.id
      · exact ⟨ixO a, mem_putM.2 (Or.inl (by rw [he]))⟩
      · exact ⟨o, mem_putM.2 (Or.inr ⟨hm, he⟩)⟩
    · rw [hx] at hz
      cases hz
      exact ⟨ixO a, mem_putM.2 (Or.inl rfl)⟩
/-- the news, and the value of its rain, of an entry -/
def noNews : NewsV := ⟨0, 0, ⟨0, 0, []⟩⟩
def entOf (xs : List NewsV) (vs : List Value) (p : Int × OV) : NewsV × Value := ((xs[p.2.level.toNat]?).getD noNews, (vs[p.2.level.toNat]?).getD (.slice none 0 0))
def entsOf (xs : List NewsV) (vs : List Value) (m : OM) : List (NewsV × Value) := m.map (entOf xs vs)
theorem ent_ix {xs : List NewsV} {vs : List Value} {p : Int × OV} {j : Nat} {x : NewsV} (h1 : p.2 = ixO j) (h2 : xs[j]? = some x) : (entOf xs vs p).1 = x := by
  unfold entOf
  rw [h1]
  unfold ixO
  simp only [Int.toNat_natCast, h2, Option.getD_some]
def keepE (es : List (NewsV × Value)) : List (NewsV × Value) := (es.filter fun q => decide (q.1.kind ≠ 2)).take 32
theorem keepE_news (es : List (NewsV × Value)) : (keepE es).map (·.1) = keepN (es.map (·.1)) := by
  unfold keepE keepN
  rw [List.map_take, List.filter_map]
  rfl
theorem big_of {h : Int} {xs : List NewsV} {vs : List Value} {m : OM} (hb : BestM h xs xs.length m) : IsBig h xs ((entsOf xs vs m).map (·.1)) := by
  have hid : ∀ p ∈ m, (entOf xs vs p).1.cast.id = p.1 := fun p hp => by
    obtain ⟨j, x, h1, h2, h3, _⟩ := hb.mem p hp
    rw [ent_ix h1 h2]
    exact h3
  refine ⟨?_, fun x hx => ?_, fun y hy hc => ?_⟩
  · unfold entsOf
    rw [List.map_map, List.pairwise_map]
    have := hb.sorted
    unfold SortedM at this
    refine List.Pairwise.imp_of_mem ?_ this
    intro a b ha hb2 hlt
    simp only [Function.comp_apply]
    rw [hid a ha, hid b hb2]
    exact hlt
  · unfold entsOf at hx
    rw [List.map_map, List.mem_map] at hx
    obtain ⟨p, hp, rfl⟩ := hx
    obtain ⟨j, x, h1, h2, h3, h4, h5⟩ := hb.mem p hp
    simp only [Function.comp_apply]
    rw [ent_ix h1 h2]
    refine ⟨List.mem_of_getElem? h2, h4, fun y hy hc hid2 => ?_⟩
    obtain ⟨i, hi⟩ := List.getElem?_of_mem hy
    exact h5 i y (List.getElem?_eq_some_iff.1 hi).1 hi hc (hid2.trans h3)
  · obtain ⟨i, hi⟩ := List.getElem?_of_mem hy
    obtain ⟨o, ho⟩ := hb.all i y (List.getElem?_eq_some_iff.1 hi).1 hi hc
    refine ⟨(entOf xs vs (y.cast.id, o)).1, List.mem_map.2 ⟨_, List.mem_map.2 ⟨_, ho, rfl⟩, rfl⟩, hid _ ho⟩
/-- the cells of a forecast that is handed back -/
def cellsK (q : NewsV × Value) : List Value := [.int .i64 q.1.cast.id, .int .i64 q.1.cast.src, q.2]
theorem flat_get : ∀ (l : List (NewsV × Value)) (k : Nat) (x : NewsV × Value), l[k]? = some x → ∀ j v, (cellsK x)[j]? = some v → (l.flatMap cellsK)[k * 3 + j]? = some v
  | [], k, x, h, _, _, _ => by simp at h
  | y :: l, 0, x, h, j, v, hj => by
    simp only [List.getElem?_cons_zero, Option.some.injEq] at h
    subst h
    have hl := (List.getElem?_eq_some_iff.1 hj).1
    rw [List.flatMap_cons, Nat.zero_mul, Nat.zero_add, List.getElem?_append_left hl, hj]
  | y :: l, k + 1, x, h, j, v, hj => by
    have h8 : (cellsK y).length = 3 := rfl
    rw [List.flatMap_cons, List.getElem?_append_right (by rw [h8]; omega), h8]
    have e : (k + 1) * 3 + j - 3 = k * 3 + j := by omega
    rw [e]
    exact flat_get l k x (by simpa using h) j v hj
open Go.RowKit in
theorem larg_casts {base : Nat} {v : Value} {w : World} {e : TypeId} {ks : List (NewsV × Value)} (h : w.ownsRow base e 3 v ks.length (ks.flatMap cellsK))
    (hr : ∀ q ∈ ks, LArg (RList RSpan 2) 1 q.2 q.1.cast.rain w ∧ I64n q.1) : LArg RCast 3 v (ks.map fun q => q.1.cast) w := by
  rcases h.2 with ⟨rfl, h0⟩ | ⟨g, cap, cur, rfl, hg, hh, hnc, hcm, hcs, htk⟩
  · have : ks = [] := List.eq_nil_of_length_eq_zero h0
    subst this
    exact ⟨none, 0, rfl, Nat.le_refl _, Nat.zero_le _, fun j x hj => by simp at hj⟩
  · refine ⟨some ⟨g, 0, none⟩, cap, by rw [List.length_map], by rw [List.length_map]; exact hnc, by first | exact hcm | exact hcm.1, fun j x hj => ?_⟩
    rw [List.getElem?_map, Option.map_eq_some_iff] at hj
    obtain ⟨q, hq, rfl⟩ := hj
    obtain ⟨hl, k1, k2, k3, k4⟩ := hr q (List.mem_of_getElem? hq)
    refine ⟨g, 0, cellsK q, rfl, blk_lt hh, rfl, ?_, q.2, rfl, k3, k4, hl⟩
    intro i u hi
    have h1 := flat_get ks j q hq i u hi
    rw [← htk, List.getElem?_take] at h1
    split at h1
    · rw [Nat.zero_add, cell_of_row _ _ _ _ _ _ hh, ← Array.getElem?_toList]
      exact h1
    · cases h1
end Go.Proofs.Ytleiiedacachjaa
