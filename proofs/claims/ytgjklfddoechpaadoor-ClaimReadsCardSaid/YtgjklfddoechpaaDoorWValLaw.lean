/- bournelaw02: values, their encodings, and their order. No program in this text. -/
import Derived.Test.YtgjklfddoechpaaDoorWOps
namespace Go.Proofs.YtgjklfddoechpaaDoor
structure VV where
  kind : Int
  n : Int
  s : ByteArray
  l : List Int
  t : List ByteArray
def k4 (x : VV) : Int := x.kind % 4
def textC (s : ByteArray) : List UInt8 := textL s.data.toList
/-- the encoding of a value -/
def encV (x : VV) : List UInt8 := if k4 x = 0 then intL x.n else if k4 x = 1 then textC x.s else if k4 x = 2 then joinL intL x.l else joinL textC x.t
def allL (xs : List VV) : List UInt8 := xs.flatMap encV
theorem k4_range (x : VV) : k4 x = 0 ∨ k4 x = 1 ∨ k4 x = 2 ∨ k4 x = 3 := by unfold k4; omega
theorem opInt_enc {n : Int} (h : I64 n) (r : List UInt8) : opInt (some (intL n ++ r)) = (n, some r) := by
  unfold opInt
  simp only [rdInt_intL h]
theorem opText_enc (s r : List UInt8) : opText (some (textL s ++ r)) = (s, some r) := by
  unfold opText
  simp only [rdText_textL]
theorem opNums_enc {l : List Int} (h : ∀ x ∈ l, I64 x) (r : List UInt8) : opNums (some (joinL intL l ++ r)) = (l, some r) := by
  unfold opNums opList
  have h1 := (joinL_len intL l).1
  have := rdList_joinL rdInt intL l r (fun x hx r => rdInt_intL (h x hx) r) ((joinL intL l ++ r).length + 1) (by rw [List.length_append]; omega)
  simp only [this]
theorem opTexts_enc (l : List (List UInt8)) (r : List UInt8) : opTexts (some (joinL textL l ++ r)) = (l, some r) := by
  unfold opTexts opList
  have h1 := (joinL_len textL l).1
  have := rdList_joinL rdText textL l r (fun x _ r => rdText_textL x r) ((joinL textL l ++ r).length + 1) (by rw [List.length_append]; omega)
  simp only [this]
theorem joinC (l : List ByteArray) : joinL textC l = joinL textL (l.map (·.data.toList)) := by
  unfold joinL
  rw [List.flatMap_map]
  rfl
/-- three-way comparisons -/
def cmpI (a b : Int) : Int := if a < b then -1 else if b < a then 1 else 0
def cmpT (a b : ByteArray) : Int := if a.data.toList < b.data.toList then -1 else if b.data.toList < a.data.toList then 1 else 0
def cmpLs {α : Type} [DecidableEq α] (c : α → α → Int) : List α → List α → Int
  | [], [] => 0
  | [], _ :: _ => -1
  | _ :: _, [] => 1
  | x :: a, y :: b => if x = y then cmpLs c a b else c x y
def cmpV (a b : VV) : Int := if k4 a = 0 then cmpI a.n b.n else if k4 a = 1 then cmpT a.s b.s else if k4 a = 2 then cmpLs cmpI a.l b.l else cmpLs cmpT a.t b.t
/-- what a comparison says of the encodings -/
def Says (c : Int) (x y : List UInt8) : Prop := (c = -1 ∧ Apart x y) ∨ (c = 1 ∧ Apart y x) ∨ (c = 0 ∧ x = y)
theorem says_int {a b : Int} (ha : I64 a) (hb : I64 b) : Says (cmpI a b) (intL a) (intL b) := by
  unfold cmpI
  by_cases h : a < b
  · rw [if_pos h]; exact Or.inl ⟨rfl, intL_apart ha hb h⟩
  · rw [if_neg h]
    by_cases h2 : b < a
    · rw [if_pos h2]; exact Or.inr (Or.inl ⟨rfl, intL_apart hb ha h2⟩)
    · rw [if_neg h2]; exact Or.inr (Or.inr ⟨rfl, by rw [show a = b by omega]⟩)
theorem list_tri (a b : List UInt8) : a < b ∨ a = b ∨ b < a := by
  rcases parts a b with h | ⟨c, z, rfl⟩ | ⟨c, z, rfl⟩ | h | h
  · exact Or.inr (Or.inl h)
  · left
    induction a with
    | nil => exact List.Lex.nil
    | cons d a ih => exact List.Lex.cons ih
  · right; right
    induction b with
    | nil => exact List.Lex.nil
    | cons d b ih => exact List.Lex.cons ih
  · exact Or.inl h.lt
  · exact Or.inr (Or.inr h.lt)
theorem says_text (a b : ByteArray) : Says (cmpT a b) (textC a) (textC b) := by
  unfold cmpT
  by_cases h : a.data.toList < b.data.toList
  · rw [if_pos h]; exact Or.inl ⟨rfl, textL_apart h⟩
  · rw [if_neg h]
    by_cases h2 : b.data.toList < a.data.toList
    · rw [if_pos h2]; exact Or.inr (Or.inl ⟨rfl, textL_apart h2⟩)
    · rw [if_neg h2]
      refine Or.inr (Or.inr ⟨rfl, ?_⟩)
      rcases list_tri a.data.toList b.data.toList with h3 | h3 | h3
      · exact absurd h3 h
      · unfold textC; rw [h3]
      · exact absurd h3 h2
theorem Says.cons {c : Int} {x y : List UInt8} (p : List UInt8) (h : Says c x y) : Says c (p ++ x) (p ++ y) := by
  rcases h with ⟨h1, h2⟩ | ⟨h1, h2⟩ | ⟨h1, h2⟩
  · exact Or.inl ⟨h1, h2.front p⟩
  · exact Or.inr (Or.inl ⟨h1, h2.front p⟩)
  · exact Or.inr (Or.inr ⟨h1, by rw [h2]⟩)
theorem joinL_cons {α : Type} (f : α → List UInt8) (x : α) (l : List α) : joinL f (x :: l) = (1 :: f x) ++ joinL f l := by simp [joinL]
theorem says_list {α : Type} [DecidableEq α] (c : α → α → Int) (f : α → List UInt8) (ok : α → Prop) (hc : ∀ x y, ok x → ok y → Says (c x y) (f x) (f y)) (hne : ∀ x y, ok x → ok y → x ≠ y → c x y ≠ 0) :
    ∀ a b : List α, (∀ x ∈ a, ok x) → (∀ x ∈ b, ok x) → Says (cmpLs c a b) (joinL f a) (joinL f b) := by
  intro a
  induction a with
  | nil =>
    intro b _ _
    cases b with
    | nil => exact Or.inr (Or.inr ⟨rfl, rfl⟩)
    | cons y b =>
      refine Or.inl ⟨rfl, ?_⟩
      rw [joinL_cons]
      exact Apart.cons (u := 0) (v := 1) (by decide) [] (f y ++ joinL f b)
  | cons x a ih =>
    intro b ha hb
    cases b with
    | nil =>
      refine Or.inr (Or.inl ⟨rfl, ?_⟩)
      rw [joinL_cons]
      exact Apart.cons (u := 0) (v := 1) (by decide) [] (f x ++ joinL f a)
    | cons y b =>
      unfold cmpLs
      by_cases hxy : x = y
      · rw [if_pos hxy, joinL_cons, joinL_cons, hxy]
        exact (ih b (fun z hz => ha z (by simp [hz])) (fun z hz => hb z (by simp [hz]))).cons _
      · rw [if_neg hxy, joinL_cons, joinL_cons]
        have hx := ha x (by simp)
        have hy := hb y (by simp)
        rcases hc x y hx hy with ⟨h1, h2⟩ | ⟨h1, h2⟩ | ⟨h1, h2⟩
        · exact Or.inl ⟨h1, (h2.front [1]).back _ _⟩
        · exact Or.inr (Or.inl ⟨h1, (h2.front [1]).back _ _⟩)
        · exact absurd h1 (hne x y hx hy hxy)
theorem cmpI_ne {a b : Int} (h : a ≠ b) : cmpI a b ≠ 0 := by
  unfold cmpI
  split
  · decide
  · split
    · decide
    · omega
theorem cmpT_ne {a b : ByteArray} (h : a ≠ b) : cmpT a b ≠ 0 := by
  unfold cmpT
  split
  · decide
  · split
    · decide
    · next h1 h2 =>
      rcases list_tri a.data.toList b.data.toList with h3 | h3 | h3
      · exact absurd h3 h1
      · exfalso
        apply h
        cases a; cases b
        simp at h3
        rw [h3]
      · exact absurd h3 h2
def VOk (x : VV) : Prop := I64 x.kind ∧ I64 x.n ∧ x.s.size ≤ maxV ∧ x.l.length ≤ maxV ∧ (∀ i ∈ x.l, I64 i) ∧ x.t.length ≤ maxV ∧ ∀ s ∈ x.t, s.size ≤ maxV
where maxV : Nat := 9223372036854775807
theorem says_val {a b : VV} (ha : VOk a) (hb : VOk b) (hk : k4 a = k4 b) : Says (cmpV a b) (encV a) (encV b) := by
  unfold cmpV encV
  rw [← hk]
  obtain ⟨_, a1, _, _, a2, _, _⟩ := ha
  obtain ⟨_, b1, _, _, b2, _, _⟩ := hb
  by_cases h0 : k4 a = 0
  · rw [if_pos h0, if_pos h0, if_pos h0]; exact says_int a1 b1
  · rw [if_neg h0, if_neg h0, if_neg h0]
    by_cases h1 : k4 a = 1
    · rw [if_pos h1, if_pos h1, if_pos h1]; exact says_text _ _
    · rw [if_neg h1, if_neg h1, if_neg h1]
      by_cases h2 : k4 a = 2
      · rw [if_pos h2, if_pos h2, if_pos h2]
        exact says_list cmpI intL I64 (fun x y hx hy => says_int hx hy) (fun x y _ _ h => cmpI_ne h) _ _ a2 b2
      · rw [if_neg h2, if_neg h2, if_neg h2]
        exact says_list cmpT textC (fun _ => True) (fun x y _ _ => says_text x y) (fun x y _ _ h => cmpT_ne h) _ _ (fun _ _ => trivial) (fun _ _ => trivial)
theorem allL_cons (x : VV) (l : List VV) : allL (x :: l) = encV x ++ allL l := rfl
/-- two sequences whose encodings agree for the first k values: the rest decides -/
theorem all_split (a : List VV) (k : Nat) (x : VV) (h : a[k]? = some x) : allL a = allL (a.take k) ++ (encV x ++ allL (a.drop (k + 1))) := by
  have hl := (List.getElem?_eq_some_iff.1 h).1
  rw [List.getElem?_eq_getElem hl] at h
  have e : a = a.take k ++ (x :: a.drop (k + 1)) := by
    rw [← Option.some.inj h, ← List.drop_eq_getElem_cons hl, List.take_append_drop]
  have e2 : allL a = allL (a.take k ++ (x :: a.drop (k + 1))) := by rw [← e]
  rw [e2]
  unfold allL
  rw [List.flatMap_append]
  rfl
theorem all_first {a b : List VV} {k : Nat} {x y : VV} {c : Int} (ha : a[k]? = some x) (hb : b[k]? = some y) (he : allL (a.take k) = allL (b.take k)) (hs : Says c (encV x) (encV y)) (hc : c ≠ 0) :
    (c = -1 ∧ Apart (allL a) (allL b)) ∨ (c = 1 ∧ Apart (allL b) (allL a)) := by
  rw [all_split a k x ha, all_split b k y hb, he]
  rcases hs with ⟨h1, h2⟩ | ⟨h1, h2⟩ | ⟨h1, h2⟩
  · exact Or.inl ⟨h1, (h2.back _ _).front _⟩
  · exact Or.inr ⟨h1, (h2.back _ _).front _⟩
  · exact absurd h1 hc
theorem all_next {a b : List VV} {k : Nat} {x y : VV} (ha : a[k]? = some x) (hb : b[k]? = some y) (he : allL (a.take k) = allL (b.take k)) (hs : encV x = encV y) : allL (a.take (k + 1)) = allL (b.take (k + 1)) := by
  rw [List.take_add_one, List.take_add_one, ha, hb]
  unfold allL at he ⊢
  rw [List.flatMap_append, List.flatMap_append, he]
  simp [hs]
theorem all_prefix {a b : List VV} (_h : a.length ≤ b.length) (he : allL (a.take a.length) = allL (b.take a.length)) : allL a <+: allL b := by
  rw [List.take_of_length_le (Nat.le_refl _)] at he
  refine ⟨allL (b.drop a.length), ?_⟩
  rw [he]
  unfold allL
  rw [← List.flatMap_append, List.take_append_drop]
end Go.Proofs.YtgjklfddoechpaaDoor
