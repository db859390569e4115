/- bournelaw29.CastAside at arguments that came in; how long a slice can be that came in. -/
import Derived.Test.YtleiiedacachjaaKAside
import Derived.Test.YtleiiedacachjaaKNewsOf
import Derived.Test.YtleiiedacachjaaKArgs
import Derived.SizedLaws
namespace Go.Proofs.Ytleiiedacachjaa
open Go.RowKit
theorem sized_len {α H : Type} {enc : TypeId × Value → H} {W : World} {P : Program} {ts : List TypeId} {ds : List (DataW H)} {t e : TypeId} {v : Value} {d : DataW H} {ps : List MemPlace} {R : α → List Value → World → Prop} {size : Nat} {l : List α}
    (hl : LArg R size v l W) (ht : DataW.Trod enc P W 0 (fun _ => true) true t v d ps) (hu : P.underlying t = some (.slice e)) {j : Nat} (hsz : (DataW.weightsEach P ts ds).all (· ≤ reachBytes) = true) (h1 : ts[j]? = some t) (h2 : ds[j]? = some d) :
    l.length * P.bytesOf e ≤ reachBytes := by
  obtain ⟨n, ht⟩ := ht
  obtain ⟨a, c, rfl, -, -⟩ := hl.slice
  rcases DataW.trod_slice hu ht with ⟨h0, h3⟩ | ⟨a', len, cap, elems, rest, m, _, h0, hx, _, _, _, hlen, _⟩
  · have h0' := (List.cons.inj h0).1
    simp only [Value.slice.injEq] at h0'
    rw [h0'.2.1, Nat.zero_mul]
    exact Nat.zero_le _
  · have h0' := (List.cons.inj h0).1
    simp only [Value.slice.injEq] at h0'
    simp only [Prod.mk.injEq] at hx
    obtain ⟨rfl, -⟩ := hx
    have hz := sized_slice hsz h1 h2 hu
    rw [List.length_map] at hz
    rw [h0'.2.1, ← hlen]
    exact Nat.le_trans (Nat.mul_le_mul_right _ (Nat.le_add_right _ _)) hz
theorem aside_in (v : Value) (l : List NewsV) (x : NewsV) (cs : List Value) (h : Int) (w : World) (ha : LArg RNews 5 v l w) (hz : l.length * 56 ≤ reachBytes) (hx : RNews x cs w) :
    Calls Try.prog 4 #[v, .agg cs.toArray, .int .i64 h] w fun e w' => e = .returned (.bool true) ∧ Below w.heap.size w w' := by
  obtain ⟨a, c, rfl, hc1, hc2⟩ := ha.slice
  have hc3 : c ≤ 9223372036854775807 := by unfold maxLen at hc2; omega
  obtain ⟨⟨vs, hS⟩, hI⟩ := newsS_of ha
  obtain ⟨hxn, u, rfl, hu⟩ := news_ok hx
  obtain ⟨u0, q0, rfl, -, -⟩ := hu.slice
  obtain ⟨E, he, hel, hr, hat⟩ := ents_of hS
  have hS' : NewsS (E.map (·.1)) (E.map (·.2)) a w := by
    refine ⟨by rw [List.length_map, List.length_map], fun i y hy => ?_⟩
    rw [List.getElem?_map, Option.map_eq_some_iff] at hy
    obtain ⟨q, hq, rfl⟩ := hy
    obtain ⟨b, o, h1, h2, h3⟩ := hat i q hq
    exact ⟨q.2, b, o, by rw [List.getElem?_map, hq]; rfl, h1, h2, h3, hr q (List.mem_of_getElem? hq)⟩
  have hcore := aside_core x u0 q0 E a c h w hS' hat hr hu (fun y hy => hI y (by rw [← he]; exact hy)) hxn ⟨by rw [hel]; exact hc1, hc3⟩ (by rw [hel]; unfold reachBytes at hz; omega)
  rw [hel] at hcore
  exact hcore
end Go.Proofs.Ytleiiedacachjaa
