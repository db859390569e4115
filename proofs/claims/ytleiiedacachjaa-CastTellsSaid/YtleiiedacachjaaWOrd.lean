/- Package wire: the order of encodings, and what a reader's calls return, as plain functions. No program in this text. -/
import Derived.Test.YtleiiedacachjaaWLaw
namespace Go.Proofs.Ytleiiedacachjaa
/-- x and y part at some place: x has the lower byte there -/
def Apart (x y : List UInt8) : Prop := ∃ p u v x' y', x = p ++ u :: x' ∧ y = p ++ v :: y' ∧ u.toNat < v.toNat
theorem Apart.front {x y : List UInt8} (h : Apart x y) (p : List UInt8) : Apart (p ++ x) (p ++ y) := by
  obtain ⟨q, u, v, x', y', rfl, rfl, hlt⟩ := h
  exact ⟨p ++ q, u, v, x', y', by simp, by simp, hlt⟩
theorem Apart.back {x y : List UInt8} (h : Apart x y) (a b : List UInt8) : Apart (x ++ a) (y ++ b) := by
  obtain ⟨q, u, v, x', y', rfl, rfl, hlt⟩ := h
  exact ⟨q, u, v, x' ++ a, y' ++ b, by simp, by simp, hlt⟩
theorem Apart.cons {u v : UInt8} (h : u.toNat < v.toNat) (x y : List UInt8) : Apart (u :: x) (v :: y) := ⟨[], u, v, x, y, rfl, rfl, h⟩
theorem Apart.lt {x y : List UInt8} (h : Apart x y) : x < y := by
  obtain ⟨p, u, v, x', y', rfl, rfl, hlt⟩ := h
  induction p with
  | nil => exact List.Lex.rel (by rw [UInt8.lt_iff_toNat_lt]; exact hlt)
  | cons c p ih => exact List.Lex.cons ih
theorem Apart.not_prefix {x y : List UInt8} (h : Apart x y) : ¬ x <+: y ∧ ¬ y <+: x := by
  obtain ⟨p, u, v, x', y', rfl, rfl, hlt⟩ := h
  have hne : u ≠ v := fun e => by rw [e] at hlt; omega
  constructor
  · rintro ⟨z, hz⟩
    rw [List.append_assoc] at hz
    have := List.append_cancel_left hz
    simp at this
    exact hne this.1
  · rintro ⟨z, hz⟩
    rw [List.append_assoc] at hz
    have := List.append_cancel_left hz
    simp at this
    exact hne this.1.symm
/-- two lists of bytes are equal, or one is the other's beginning, or they part -/
theorem parts (x y : List UInt8) : x = y ∨ (∃ c z, y = x ++ c :: z) ∨ (∃ c z, x = y ++ c :: z) ∨ Apart x y ∨ Apart y x := by
  induction x generalizing y with
  | nil =>
    cases y with
    | nil => exact Or.inl rfl
    | cons c y => exact Or.inr (Or.inl ⟨c, y, rfl⟩)
  | cons a x ih =>
    cases y with
    | nil => exact Or.inr (Or.inr (Or.inl ⟨a, x, rfl⟩))
    | cons b y =>
      rcases Nat.lt_trichotomy a.toNat b.toNat with h | h | h
      · exact Or.inr (Or.inr (Or.inr (Or.inl (Apart.cons h _ _))))
      · have : a = b := UInt8.toNat_inj.1 h
        subst this
        rcases ih y with rfl | ⟨c, z, rfl⟩ | ⟨c, z, rfl⟩ | h | h
        · exact Or.inl rfl
        · exact Or.inr (Or.inl ⟨c, z, rfl⟩)
        · exact Or.inr (Or.inr (Or.inl ⟨c, z, rfl⟩))
        · exact Or.inr (Or.inr (Or.inr (Or.inl (h.front [a]))))
        · exact Or.inr (Or.inr (Or.inr (Or.inr (h.front [a]))))
      · exact Or.inr (Or.inr (Or.inr (Or.inr (Apart.cons h _ _))))
theorem apart_of_val {x y : List UInt8} (hl : x.length = y.length) (h : valL x.reverse < valL y.reverse) : Apart x y := by
  rcases parts x y with rfl | ⟨c, z, rfl⟩ | ⟨c, z, rfl⟩ | h' | ⟨p, u, v, x', y', rfl, rfl, hlt⟩
  · omega
  · simp at hl
  · simp at hl
  · exact h'
  · exfalso
    have hl' : y'.length = x'.length := by simpa using hl
    simp only [List.reverse_append, List.reverse_cons, List.append_assoc, val_append, List.length_reverse, valL, List.cons_append, List.nil_append] at h
    have h1 := val_lt x'.reverse
    have h2 := val_lt y'.reverse
    rw [List.length_reverse] at h1 h2
    rw [hl'] at h h2
    have h3 : 256 ^ x'.length * (u.toNat + 256 * valL p.reverse) + 256 ^ x'.length ≤ 256 ^ x'.length * (v.toNat + 256 * valL p.reverse) := by
      rw [← Nat.mul_succ]
      exact Nat.mul_le_mul_left _ (by omega)
    omega
theorem apart_flip {x y : List UInt8} (h : Apart x y) : Apart (y.map (fun b => 255 - b)) (x.map (fun b => 255 - b)) := by
  obtain ⟨p, u, v, x', y', rfl, rfl, hlt⟩ := h
  have hf : ∀ b : UInt8, (255 - b).toNat = 255 - b.toNat := fun b => by
    have := b.toNat_lt
    rw [UInt8.toNat_sub_of_le]
    · rfl
    · rw [UInt8.le_iff_toNat_le]; show b.toNat ≤ 255; omega
  have := v.toNat_lt
  exact ⟨p.map (fun b => 255 - b), 255 - v, 255 - u, y'.map (fun b => 255 - b), x'.map (fun b => 255 - b), by simp, by simp, by rw [hf, hf]; omega⟩
theorem leb_mono {a b : Nat} (h : a < b) : (lebL a).length < (lebL b).length ∨ ((lebL a).length = (lebL b).length ∧ Apart (lebL a).reverse (lebL b).reverse) := by
  rcases Nat.lt_trichotomy (lebL a).length (lebL b).length with h1 | h1 | h1
  · exact Or.inl h1
  · refine Or.inr ⟨h1, apart_of_val (by simpa using h1) ?_⟩
    rw [List.reverse_reverse, List.reverse_reverse, val_leb, val_leb]
    exact h
  · exfalso
    have := leb_len_le (m := a) (k := (lebL b).length) (Nat.lt_trans h (leb_lt_len (Nat.le_refl _)))
    omega
theorem intL_apart {a b : Int} (ha : I64 a) (hb : I64 b) (h : a < b) : Apart (intL a) (intL b) := by
  unfold I64 at ha hb
  unfold intL
  by_cases h1 : 0 ≤ a
  · rw [if_pos h1, if_pos (by omega)]
    have l1 := leb_len8 (m := a.toNat) (by omega)
    have l2 := leb_len8 (m := b.toNat) (by omega)
    rcases leb_mono (a := a.toNat) (b := b.toNat) (by omega) with h2 | ⟨h2, h3⟩
    · exact Apart.cons (by rw [ofNat_toNat _ (by omega), ofNat_toNat _ (by omega)]; omega) _ _
    · rw [h2]
      exact h3.front [_]
  · rw [if_neg h1]
    have l1 := leb_len8 (m := (-(a + 1)).toNat) (by omega)
    by_cases h2 : 0 ≤ b
    · rw [if_pos h2]
      have l2 := leb_len8 (m := b.toNat) (by omega)
      exact Apart.cons (by rw [ofNat_toNat _ (by omega), ofNat_toNat _ (by omega)]; omega) _ _
    · rw [if_neg h2]
      have l2 := leb_len8 (m := (-(b + 1)).toNat) (by omega)
      rcases leb_mono (a := (-(b + 1)).toNat) (b := (-(a + 1)).toNat) (by omega) with h3 | ⟨h3, h4⟩
      · exact Apart.cons (by rw [ofNat_toNat _ (by omega), ofNat_toNat _ (by omega)]; omega) _ _
      · rw [h3, ← List.map_reverse, ← List.map_reverse]
        exact (apart_flip h4).front [_]
theorem escTs_append (a b : List UInt8) : escTs (a ++ b) = escTs a ++ escTs b := List.flatMap_append
theorem textL_apart {a b : List UInt8} (h : a < b) : Apart (textL a) (textL b) := by
  have irr : ¬ b < a := List.lt_asymm h
  rcases parts a b with rfl | ⟨c, z, rfl⟩ | ⟨c, z, rfl⟩ | ⟨p, u, v, x', y', rfl, rfl, hlt⟩ | h'
  · exact absurd h irr
  · unfold textL
    rw [escTs_append, List.append_assoc]
    refine Apart.front ?_ _
    show Apart [0, 1] ((escT c ++ escTs z) ++ [0, 1])
    unfold escT
    split
    · exact (Apart.cons (u := 1) (v := 255) (by decide) [] (escTs z ++ [0, 1])).front [0]
    · next hc =>
      have : c.toNat ≠ 0 := fun e => hc (UInt8.toNat_inj.1 (by rw [e]; rfl))
      exact Apart.cons (u := 0) (v := c) (by show 0 < c.toNat; omega) [1] (escTs z ++ [0, 1])
  · exfalso
    refine irr ?_
    clear h irr
    induction b with
    | nil => exact List.Lex.nil
    | cons d b ih => exact List.Lex.cons ih
  · unfold textL
    rw [escTs_append, escTs_append, List.append_assoc, List.append_assoc]
    refine Apart.front ?_ _
    show Apart ((escT u ++ escTs x') ++ [0, 1]) ((escT v ++ escTs y') ++ [0, 1])
    have hv : v ≠ 0 := fun e => by subst e; simp at hlt
    unfold escT
    rw [if_neg hv]
    split
    · next hu =>
      subst hu
      exact Apart.cons hlt (255 :: (escTs x' ++ [0, 1])) (escTs y' ++ [0, 1])
    · exact Apart.cons hlt (escTs x' ++ [0, 1]) (escTs y' ++ [0, 1])
  · exact absurd h'.lt irr
/-- two lists part at the first elements that differ -/
theorem joinL_apart {α : Type} (f : α → List UInt8) (p l m : List α) (x y : α) (h : Apart (f x) (f y)) : Apart (joinL f (p ++ x :: l)) (joinL f (p ++ y :: m)) := by
  unfold joinL
  simp only [List.flatMap_append, List.flatMap_cons, List.append_assoc, List.cons_append]
  refine Apart.front ?_ _
  exact (h.back _ _).front [1]
theorem joinL_short {α : Type} (f : α → List UInt8) (p m : List α) (y : α) : Apart (joinL f p) (joinL f (p ++ y :: m)) := by
  unfold joinL
  simp only [List.flatMap_append, List.flatMap_cons, List.append_assoc, List.cons_append]
  refine Apart.front ?_ _
  exact Apart.cons (by decide) [] _
/-- what a reader holds: none once it has failed -/
abbrev RSt := Option (List UInt8)
def opInt (s : RSt) : Int × RSt :=
  match s with
  | none => (0, none)
  | some r => match rdInt r with | none => (0, none) | some (n, r') => (n, some r')
def opNum (s : RSt) : Int × RSt := if (opInt s).1 < 0 then (0, none) else opInt s
def opText (s : RSt) : List UInt8 × RSt :=
  match s with
  | none => ([], none)
  | some r => match rdText r with | none => ([], none) | some (n, r') => (n, some r')
def opList {α : Type} (f : List UInt8 → Option (α × List UInt8)) (s : RSt) : List α × RSt :=
  match s with
  | none => ([], none)
  | some r => match rdList f (r.length + 1) r with | none => ([], none) | some (n, r') => (n, some r')
def opNums (s : RSt) : List Int × RSt := opList rdInt s
def opTexts (s : RSt) : List (List UInt8) × RSt := opList rdText s
def leftOf (s : RSt) : Nat := match s with | none => 0 | some r => r.length
def doneOf (s : RSt) : Bool := s == some []
end Go.Proofs.Ytleiiedacachjaa
