/- Forecasts: the order of news, and which of them are admitted. Plain. -/
import Derived.Test.YtleiiedacachjaaKLaw
import Derived.Test.YtleiiedacachjaaWOrd
namespace Go.Proofs.Ytleiiedacachjaa
/-- they part, one way or the other -/
def Parts (x y : List UInt8) : Prop := Apart x y ∨ Apart y x
theorem Parts.front {x y : List UInt8} (h : Parts x y) (p : List UInt8) : Parts (p ++ x) (p ++ y) := h.imp (fun h => h.front p) (fun h => h.front p)
theorem Parts.back {x y : List UInt8} (h : Parts x y) (a b : List UInt8) : Parts (x ++ a) (y ++ b) := h.imp (fun h => h.back a b) (fun h => h.back b a)
theorem Parts.ne {x y : List UInt8} (h : Parts x y) : x ≠ y := fun e => by
  subst e
  rcases h with h | h <;> exact List.lt_irrefl _ h.lt
theorem intL_parts {a b : Int} (ha : I64 a) (hb : I64 b) (h : a ≠ b) : Parts (intL a) (intL b) := by
  rcases Int.lt_or_gt_of_ne h with h | h
  · exact Or.inl (intL_apart ha hb h)
  · exact Or.inr (intL_apart hb ha h)
/-- where two lists part -/
theorem split_ne {α : Type} : ∀ (a b : List α), a ≠ b → (∃ p x y l m, a = p ++ x :: l ∧ b = p ++ y :: m ∧ x ≠ y) ∨ (∃ y m, b = a ++ y :: m) ∨ (∃ x l, a = b ++ x :: l)
  | [], [], h => absurd rfl h
  | [], y :: b, _ => Or.inr (Or.inl ⟨y, b, rfl⟩)
  | x :: a, [], _ => Or.inr (Or.inr ⟨x, a, rfl⟩)
  | x :: a, y :: b, h => by
    by_cases hx : x = y
    · subst hx
      have hab : a ≠ b := fun e => h (by rw [e])
      rcases split_ne a b hab with ⟨p, u, v, l, m, rfl, rfl, hne⟩ | ⟨v, m, rfl⟩ | ⟨u, l, rfl⟩
      · exact Or.inl ⟨x :: p, u, v, l, m, rfl, rfl, hne⟩
      · exact Or.inr (Or.inl ⟨v, m, rfl⟩)
      · exact Or.inr (Or.inr ⟨u, l, rfl⟩)
    · exact Or.inl ⟨[], x, y, a, b, rfl, rfl, hx⟩
theorem joinL_parts {α : Type} (f : α → List UInt8) {a b : List α} (hf : ∀ x ∈ a, ∀ y ∈ b, x ≠ y → Parts (f x) (f y)) (h : a ≠ b) : Parts (joinL f a) (joinL f b) := by
  rcases split_ne a b h with ⟨p, x, y, l, m, rfl, rfl, hne⟩ | ⟨y, m, rfl⟩ | ⟨x, l, rfl⟩
  · rcases hf x (by simp) y (by simp) hne with hh | hh
    · exact Or.inl (joinL_apart f p l m x y hh)
    · exact Or.inr (joinL_apart f p m l y x hh)
  · exact Or.inl (joinL_short f a m y)
  · exact Or.inr (joinL_short f b l x)
theorem nums_parts {a b : List Int} (ha : ∀ x ∈ a, I64 x) (hb : ∀ x ∈ b, I64 x) (h : a ≠ b) : Parts (joinL intL a) (joinL intL b) :=
  joinL_parts intL (fun x hx y hy hne => intL_parts (ha x hx) (hb y hy) hne) h
theorem span_ext {s t : SpanV} (h1 : s.lo = t.lo) (h2 : s.hi = t.hi) : s = t := by cases s; cases t; simp_all
theorem ends_inj : ∀ {a b : List SpanV}, endsL a = endsL b → a = b
  | [], [], _ => rfl
  | [], y :: b, h => by have := congrArg List.length h; rw [ends_len, ends_len] at this; simp at this
  | x :: a, [], h => by have := congrArg List.length h; rw [ends_len, ends_len] at this; simp at this
  | x :: a, y :: b, h => by
    have e1 : endsL (x :: a) = x.lo :: x.hi :: endsL a := rfl
    have e2 : endsL (y :: b) = y.lo :: y.hi :: endsL b := rfl
    rw [e1, e2] at h
    simp only [List.cons.injEq] at h
    rw [span_ext h.1 h.2.1, ends_inj h.2.2]
theorem rowB_parts {a b : List SpanV} (ha : SpanI a) (hb : SpanI b) (h : a ≠ b) : Parts (rowB a) (rowB b) :=
  nums_parts (ends_I ha) (ends_I hb) (fun e => h (ends_inj e))
theorem flat_parts {p l m : List Int} {x y : Int} (h : Parts (intL x) (intL y)) : Parts ((p ++ x :: l).flatMap intL) ((p ++ y :: m).flatMap intL) := by
  rw [List.flatMap_append, List.flatMap_append, List.flatMap_cons, List.flatMap_cons]
  exact (h.back _ _).front _
def NewsI (n : NewsV) : Prop := I64n n ∧ ∀ r ∈ n.cast.rain, SpanI r
theorem news_ext {x y : NewsV} (h : heads x = heads y) (hr : x.cast.rain = y.cast.rain) : x = y := by
  obtain ⟨k, n, ⟨i, s, r⟩⟩ := x
  obtain ⟨k', n', ⟨i', s', r'⟩⟩ := y
  unfold heads at h
  simp only [List.cons.injEq, and_true] at h
  simp only at hr
  obtain ⟨rfl, rfl, rfl, rfl⟩ := h
  subst hr
  rfl
theorem heads_parts {x y : NewsV} (hx : I64n x) (hy : I64n y) (h : heads x ≠ heads y) : Parts (headB x) (headB y) := by
  rcases split_ne _ _ h with ⟨p, a, b, l, m, e1, e2, hne⟩ | ⟨b, m, e⟩ | ⟨a, l, e⟩
  · unfold headB
    rw [e1, e2]
    exact flat_parts (intL_parts (heads_I hx a (by rw [e1]; simp)) (heads_I hy b (by rw [e2]; simp)) hne)
  · have := congrArg List.length e
    unfold heads at this
    simp at this
  · have := congrArg List.length e
    unfold heads at this
    simp at this
theorem news_parts {x y : NewsV} (hx : NewsI x) (hy : NewsI y) (h : x ≠ y) : Parts (newsB x) (newsB y) := by
  by_cases hh : heads x = heads y
  · have hr : x.cast.rain ≠ y.cast.rain := fun e => h (news_ext hh e)
    have e : headB x = headB y := by unfold headB; rw [hh]
    unfold newsB
    rw [e]
    exact (joinL_parts rowB (fun a ha b hb hne => rowB_parts (hx.2 a ha) (hy.2 b hb) hne) hr).front _
  · exact (heads_parts hx.1 hy.1 hh).back _ _
theorem newsB_inj {x y : NewsV} (hx : NewsI x) (hy : NewsI y) (h : newsB x = newsB y) : x = y := Classical.byContradiction fun hne => (news_parts hx hy hne).ne h
/-- earlier in the order of news, or equal -/
def LeB (a b : List UInt8) : Prop := a = b ∨ a < b
theorem leB_total (a b : List UInt8) : LeB a b ∨ b < a := by
  rcases parts a b with h | ⟨c, z, h⟩ | ⟨c, z, h⟩ | h | h
  · exact Or.inl (Or.inl h)
  · refine Or.inl (Or.inr ?_)
    rw [h]
    clear h
    induction a with
    | nil => exact List.Lex.nil
    | cons u a ih => exact List.Lex.cons ih
  · refine Or.inr ?_
    rw [h]
    clear h
    induction b with
    | nil => exact List.Lex.nil
    | cons u a ih => exact List.Lex.cons ih
  · exact Or.inl (Or.inr h.lt)
  · exact Or.inr h.lt
theorem leB_trans {a b c : List UInt8} (h1 : LeB a b) (h2 : LeB b c) : LeB a c := by
  rcases h1 with rfl | h1
  · exact h2
  · rcases h2 with rfl | h2
    · exact Or.inr h1
    · exact Or.inr (List.lt_trans h1 h2)
theorem leB_anti {a b : List UInt8} (h1 : LeB a b) (h2 : LeB b a) : a = b := by
  rcases h1 with h1 | h1
  · exact h1
  · rcases h2 with h2 | h2
    · exact h2.symm
    · exact absurd (List.lt_trans h1 h2) (List.lt_irrefl _)
/-- news that count at an hour -/
def CountsN (h : Int) (x : NewsV) : Prop := 0 ≤ x.kind ∧ x.kind < 3 ∧ x.known ≤ h
/-- of each forecast the last news that count, in the order of the forecasts -/
structure IsBig (h : Int) (xs big : List NewsV) : Prop where
  sorted : big.Pairwise fun a b => a.cast.id < b.cast.id
  mem : ∀ x ∈ big, x ∈ xs ∧ CountsN h x ∧ ∀ y ∈ xs, CountsN h y → y.cast.id = x.cast.id → LeB (newsB y) (newsB x)
  all : ∀ y ∈ xs, CountsN h y → ∃ x ∈ big, x.cast.id = y.cast.id
def keepN (big : List NewsV) : List NewsV := (big.filter fun x => decide (x.kind ≠ 2)).take 32
theorem sorted_id {big : List NewsV} (h : big.Pairwise fun a b => a.cast.id < b.cast.id) {x y : NewsV} (hx : x ∈ big) (hy : y ∈ big) (e : x.cast.id = y.cast.id) : x = y := by
  induction big with
  | nil => cases hx
  | cons z r ih =>
    rw [List.pairwise_cons] at h
    rcases List.mem_cons.1 hx with e1 | hx'
    · rcases List.mem_cons.1 hy with e2 | hy'
      · rw [e1, e2]
      · have := h.1 y hy'; rw [e1] at e; omega
    · rcases List.mem_cons.1 hy with e2 | hy'
      · have := h.1 x hx'; rw [e2] at e; omega
      · exact ih h.2 hx' hy'
theorem sorted_ext : ∀ {a b : List NewsV}, a.Pairwise (fun a b => a.cast.id < b.cast.id) → b.Pairwise (fun a b => a.cast.id < b.cast.id) → (∀ x, x ∈ a ↔ x ∈ b) → a = b
  | [], [], _, _, _ => rfl
  | [], y :: b, _, _, h => absurd ((h y).2 (by simp)) (by simp)
  | x :: a, [], _, _, h => absurd ((h x).1 (by simp)) (by simp)
  | x :: a, y :: b, ha, hb, h => by
    rw [List.pairwise_cons] at ha hb
    have hxy : x = y := by
      rcases List.mem_cons.1 ((h x).1 (by simp)) with e | e
      · exact e
      · rcases List.mem_cons.1 ((h y).2 (by simp)) with e2 | e2
        · exact e2.symm
        · have h1 := ha.1 y e2
          have h2 := hb.1 x e
          omega
    subst hxy
    congr 1
    refine sorted_ext ha.2 hb.2 (fun z => ?_)
    constructor
    · intro hz
      rcases List.mem_cons.1 ((h z).1 (by simp [hz])) with e | e
      · subst e; have := ha.1 z hz; omega
      · exact e
    · intro hz
      rcases List.mem_cons.1 ((h z).2 (by simp [hz])) with e | e
      · subst e; have := hb.1 z hz; omega
      · exact e
/-- what counts decides -/
theorem big_unique {h : Int} {xs ys a b : List NewsV} (hx : ∀ x ∈ xs, NewsI x) (hy : ∀ y ∈ ys, NewsI y) (hs : ∀ x, CountsN h x → (x ∈ xs ↔ x ∈ ys)) (ha : IsBig h xs a) (hb : IsBig h ys b) : a = b := by
  have half : ∀ {xs ys a b : List NewsV}, (∀ x ∈ xs, NewsI x) → (∀ y ∈ ys, NewsI y) → (∀ x, CountsN h x → (x ∈ xs ↔ x ∈ ys)) → IsBig h xs a → IsBig h ys b → ∀ x, x ∈ a → x ∈ b := by
    intro xs ys a b hx hy hs ha hb x hxa
    obtain ⟨m1, m2, m3⟩ := ha.mem x hxa
    obtain ⟨z, hz, hid⟩ := hb.all x ((hs x m2).1 m1) m2
    obtain ⟨n1, n2, n3⟩ := hb.mem z hz
    have k1 := m3 z ((hs z n2).2 n1) n2 hid
    have k2 := n3 x ((hs x m2).1 m1) m2 hid.symm
    have e := newsB_inj (hy z n1) (hx x m1) (leB_anti k1 k2)
    rw [← e]
    exact hz
  exact sorted_ext ha.sorted hb.sorted fun x => ⟨half hx hy hs ha hb x, half hy hx (fun x hc => (hs x hc).symm) hb ha x⟩
end Go.Proofs.Ytleiiedacachjaa
