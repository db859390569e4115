/- The plain law of CastOrders. -/
import Derived.Test.YtleiiedacachjaaKNews
namespace Go.Proofs.Ytleiiedacachjaa
theorem heads_dir {a b : NewsV} (ha : I64n a) (hb : I64n b) (h : heads a ≠ heads b) :
    (Apart (newsB a) (newsB b) ∧ Apart (joinL intL (heads a)) (joinL intL (heads b))) ∨ (Apart (newsB b) (newsB a) ∧ Apart (joinL intL (heads b)) (joinL intL (heads a))) := by
  rcases split_ne _ _ h with ⟨p, x, y, l, m, e1, e2, hne⟩ | ⟨y, m, e⟩ | ⟨x, l, e⟩
  · have hx := heads_I ha x (by rw [e1]; simp)
    have hy := heads_I hb y (by rw [e2]; simp)
    have fl : ∀ {u v : Int} {q s : List Int}, Apart (intL u) (intL v) → Apart ((p ++ u :: q).flatMap intL) ((p ++ v :: s).flatMap intL) := fun h => by
      rw [List.flatMap_append, List.flatMap_append, List.flatMap_cons, List.flatMap_cons]
      exact (h.back _ _).front _
    unfold newsB headB
    rw [e1, e2]
    rcases intL_parts hx hy hne with hh | hh
    · exact Or.inl ⟨(fl hh).back _ _, joinL_apart intL p l m x y hh⟩
    · exact Or.inr ⟨(fl hh).back _ _, joinL_apart intL p m l y x hh⟩
  · have := congrArg List.length e
    unfold heads at this
    simp at this
  · have := congrArg List.length e
    unfold heads at this
    simp at this
theorem split_at {α : Type} {l : List α} {k : Nat} {x : α} (h : l[k]? = some x) : l = l.take k ++ x :: l.drop (k + 1) := by
  obtain ⟨hk, e⟩ := List.getElem?_eq_some_iff.1 h
  rw [← e, ← List.drop_eq_getElem_cons hk, List.take_append_drop]
theorem rain_dir {a b : NewsV} (ha : NewsI a) (hb : NewsI b) (hh : heads a = heads b) {k : Nat} {r s : List SpanV} (ht : a.cast.rain.take k = b.cast.rain.take k) (h1 : a.cast.rain[k]? = some r) (h2 : b.cast.rain[k]? = some s) (hne : rowB r ≠ rowB s) :
    (Apart (newsB a) (newsB b) ∧ Apart (rowB r) (rowB s)) ∨ (Apart (newsB b) (newsB a) ∧ Apart (rowB s) (rowB r)) := by
  have e : headB a = headB b := by unfold headB; rw [hh]
  have hrs : r ≠ s := fun e => hne (by rw [e])
  have e1 := split_at h1
  have e2 := split_at h2
  rw [← ht] at e2
  unfold newsB
  rw [e, e1, e2]
  rcases rowB_parts (ha.2 r (List.mem_of_getElem? h1)) (hb.2 s (List.mem_of_getElem? h2)) hrs with hp | hp
  · exact Or.inl ⟨(joinL_apart rowB _ _ _ r s hp).front _, hp⟩
  · exact Or.inr ⟨(joinL_apart rowB _ _ _ s r hp).front _, hp⟩
theorem take_next {a b : NewsV} (ha : NewsI a) (hb : NewsI b) {k : Nat} {r s : List SpanV} (ht : a.cast.rain.take k = b.cast.rain.take k) (h1 : a.cast.rain[k]? = some r) (h2 : b.cast.rain[k]? = some s) (he : rowB r = rowB s) : a.cast.rain.take (k + 1) = b.cast.rain.take (k + 1) := by
  have hrs : r = s := Classical.byContradiction fun hne => (rowB_parts (ha.2 r (List.mem_of_getElem? h1)) (hb.2 s (List.mem_of_getElem? h2)) hne).ne he
  rw [List.take_add_one, List.take_add_one, h1, h2, ht, hrs]
theorem short_dir {a b : NewsV} (hh : heads a = heads b) (ht : a.cast.rain = b.cast.rain.take a.cast.rain.length) (hl : a.cast.rain.length < b.cast.rain.length) : Apart (newsB a) (newsB b) := by
  have e : headB a = headB b := by unfold headB; rw [hh]
  obtain ⟨y, hy⟩ : ∃ y, b.cast.rain[a.cast.rain.length]? = some y := ⟨_, List.getElem?_eq_getElem hl⟩
  have e2 := split_at hy
  rw [← ht] at e2
  unfold newsB
  rw [e, e2]
  exact (joinL_short rowB _ _ y).front _
end Go.Proofs.Ytleiiedacachjaa
