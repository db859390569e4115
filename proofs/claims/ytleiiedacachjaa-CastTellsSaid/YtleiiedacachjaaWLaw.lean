/- The encodings of package wire as plain functions on lists of bytes, and their laws. No program in this text. -/
namespace Go.Proofs.Ytleiiedacachjaa
/-- the bytes of a number, the lowest first, without zeros at the end -/
def lebL (m : Nat) : List UInt8 := if m = 0 then [] else UInt8.ofNat (m % 256) :: lebL (m / 256)
termination_by m
decreasing_by omega
/-- the number of bytes, the lowest first -/
def valL : List UInt8 → Nat
  | [] => 0
  | b :: l => b.toNat + 256 * valL l
theorem leb_zero : lebL 0 = [] := by unfold lebL; rfl
theorem leb_pos {m : Nat} (h : m ≠ 0) : lebL m = UInt8.ofNat (m % 256) :: lebL (m / 256) := by rw [lebL, if_neg h]
theorem ofNat_toNat (k : Nat) (h : k < 256) : (UInt8.ofNat k).toNat = k := by simp [UInt8.toNat_ofNat']; omega
theorem val_leb (m : Nat) : valL (lebL m) = m := by
  induction m using Nat.strongRecOn with
  | _ m ih =>
    by_cases h : m = 0
    · subst h; rw [leb_zero]; rfl
    · rw [leb_pos h, valL, ih (m / 256) (by omega), ofNat_toNat _ (by omega)]
      omega
theorem val_append (a b : List UInt8) : valL (a ++ b) = valL a + 256 ^ a.length * valL b := by
  induction a with
  | nil => simp [valL]
  | cons x a ih =>
    simp only [List.cons_append, valL, ih, List.length_cons, Nat.pow_succ]
    rw [Nat.mul_add, ← Nat.mul_assoc, Nat.mul_comm 256 (256 ^ a.length)]
    omega
theorem val_lt (l : List UInt8) : valL l < 256 ^ l.length := by
  induction l with
  | nil => simp [valL]
  | cons x l ih =>
    have := x.toNat_lt
    simp only [valL, List.length_cons, Nat.pow_succ]
    omega
theorem leb_len_le {m k : Nat} (h : m < 256 ^ k) : (lebL m).length ≤ k := by
  induction k generalizing m with
  | zero => simp at h; subst h; rw [leb_zero]; simp
  | succ k ih =>
    by_cases h0 : m = 0
    · subst h0; rw [leb_zero]; simp
    · rw [leb_pos h0, List.length_cons]
      have : m / 256 < 256 ^ k := by rw [Nat.pow_succ] at h; omega
      have := ih this
      omega
theorem leb_lt_len {m k : Nat} (h : (lebL m).length ≤ k) : m < 256 ^ k := by
  have h1 := val_lt (lebL m)
  rw [val_leb] at h1
  exact Nat.lt_of_lt_of_le h1 (Nat.pow_le_pow_right (by omega) h)
theorem leb_len8 {m : Nat} (h : m < 18446744073709551616) : (lebL m).length ≤ 8 := leb_len_le (by simpa using h)
/-- bytes whose last is not zero are those of their number -/
theorem leb_val (l : List UInt8) (h : ∀ b, l.getLast? = some b → b ≠ 0) : lebL (valL l) = l := by
  induction l with
  | nil => rw [valL, leb_zero]
  | cons x l ih =>
    have hx := x.toNat_lt
    by_cases hl : l = []
    · subst hl
      have hx0 : x ≠ 0 := h x (by simp)
      have hn : x.toNat ≠ 0 := fun e => hx0 (UInt8.toNat_inj.1 (by rw [e]; rfl))
      simp only [valL, Nat.mul_zero, Nat.add_zero]
      rw [leb_pos hn]
      have : x.toNat / 256 = 0 := by omega
      rw [this, leb_zero, Nat.mod_eq_of_lt hx]
      simp
    · have ih' := ih (fun b hb => h b (by rw [List.getLast?_cons]; rw [hb]; rfl))
      have hv : valL l ≠ 0 := by
        intro e
        rw [e, leb_zero] at ih'
        exact hl ih'.symm
      have e1 : (x.toNat + 256 * valL l) % 256 = x.toNat := by omega
      have e2 : (x.toNat + 256 * valL l) / 256 = valL l := by omega
      rw [valL, leb_pos (by omega), e1, e2, ih']
      simp
theorem leb_last (m : Nat) : ∀ b, (lebL m).getLast? = some b → b ≠ 0 := by
  induction m using Nat.strongRecOn with
  | _ m ih =>
    intro b hb
    by_cases h : m = 0
    · subst h; rw [leb_zero] at hb; simp at hb
    · rw [leb_pos h, List.getLast?_cons] at hb
      by_cases h2 : m / 256 = 0
      · rw [h2, leb_zero] at hb
        simp only [List.getLast?_nil, Option.getD_none, Option.some.injEq] at hb
        subst hb
        intro e
        have := congrArg UInt8.toNat e
        rw [ofNat_toNat _ (by omega)] at this
        have h3 : (0 : UInt8).toNat = 0 := rfl
        omega
      · cases hq : (lebL (m / 256)).getLast? with
        | none =>
          rw [List.getLast?_eq_none_iff] at hq
          have := val_leb (m / 256)
          rw [hq] at this
          exact absurd this.symm h2
        | some c =>
          rw [hq] at hb
          simp only [Option.getD_some, Option.some.injEq] at hb
          subst hb
          exact ih (m / 256) (by omega) c hq
/-- the encoding of an integer -/
def intL (n : Int) : List UInt8 :=
  if 0 ≤ n then UInt8.ofNat (128 + (lebL n.toNat).length) :: (lebL n.toNat).reverse
  else UInt8.ofNat (127 - (lebL (-(n + 1)).toNat).length) :: ((lebL (-(n + 1)).toNat).map (fun b => 255 - b)).reverse
/-- the encoding of a number that is not negative -/
def numL (n : Int) : List UInt8 := if n < 0 then [] else intL n
def escT (c : UInt8) : List UInt8 := if c = 0 then [0, 255] else [c]
def escTs (s : List UInt8) : List UInt8 := s.flatMap escT
/-- the encoding of a string -/
def textL (s : List UInt8) : List UInt8 := escTs s ++ [0, 1]
/-- the encoding of a list whose elements are encoded by f -/
def joinL {α : Type} (f : α → List UInt8) (l : List α) : List UInt8 := (l.flatMap fun x => 1 :: f x) ++ [0]
def numsL (l : List Int) : List UInt8 := joinL intL l
def textsL (l : List (List UInt8)) : List UInt8 := joinL textL l
/-- an int -/
def I64 (n : Int) : Prop := -9223372036854775808 ≤ n ∧ n ≤ 9223372036854775807
theorem intL_len {n : Int} (h : I64 n) : 1 ≤ (intL n).length ∧ (intL n).length ≤ 9 := by
  unfold I64 at h
  unfold intL
  split
  · have := leb_len8 (m := n.toNat) (by omega)
    simp; omega
  · have := leb_len8 (m := (-(n + 1)).toNat) (by omega)
    simp; omega
theorem escT_len (c : UInt8) : 1 ≤ (escT c).length ∧ (escT c).length ≤ 2 := by
  unfold escT
  split <;> simp
theorem escTs_len (s : List UInt8) : s.length ≤ (escTs s).length ∧ (escTs s).length ≤ 2 * s.length := by
  induction s with
  | nil => simp [escTs]
  | cons c s ih =>
    have := escT_len c
    simp only [escTs, List.flatMap_cons, List.length_append, List.length_cons] at ih ⊢
    omega
theorem textL_len (s : List UInt8) : (textL s).length ≤ 2 * s.length + 2 := by
  have := escTs_len s
  simp [textL]; omega
/-- reading an integer -/
def rdInt (s : List UInt8) : Option (Int × List UInt8) :=
  match s with
  | [] => none
  | c :: r =>
    let k := if c.toNat < 128 then 127 - c.toNat else c.toNat - 128
    if 8 < k ∨ r.length < k then none else
    let d := if c.toNat < 128 then (r.take k).map (fun b => 255 - b) else r.take k
    if d.head? = some 0 then none else
    if 9223372036854775807 < valL d.reverse then none else
    some (if c.toNat < 128 then -(valL d.reverse : Int) - 1 else (valL d.reverse : Int), r.drop k)
theorem flip_flip (b : UInt8) : 255 - (255 - b) = b := by
  apply UInt8.toNat_inj.1
  have := b.toNat_lt
  have h1 : (255 - b).toNat = 255 - b.toNat := by
    rw [UInt8.toNat_sub_of_le]
    · rfl
    · rw [UInt8.le_iff_toNat_le]; show b.toNat ≤ 255; omega
  rw [UInt8.toNat_sub_of_le, h1]
  · show 255 - (255 - b.toNat) = _; omega
  · rw [UInt8.le_iff_toNat_le, h1]; show 255 - b.toNat ≤ 255; omega
theorem flips_flips (l : List UInt8) : (l.map (fun b => 255 - b)).map (fun b => 255 - b) = l := by
  rw [List.map_map]
  conv => rhs; rw [← List.map_id l]
  apply List.map_congr_left
  intro b _
  exact flip_flip b
theorem rdInt_intL {n : Int} (h : I64 n) (r : List UInt8) : rdInt (intL n ++ r) = some (n, r) := by
  unfold I64 at h
  unfold intL
  split
  · next hn =>
    have hl := leb_len8 (m := n.toNat) (by omega)
    have hv := val_leb n.toNat
    have hz := leb_last n.toNat
    generalize lebL n.toNat = l at *
    have hc : (UInt8.ofNat (128 + l.length)).toNat = 128 + l.length := ofNat_toNat _ (by omega)
    have ht : (l.reverse ++ r).take l.length = l.reverse := by rw [List.take_append_of_le_length (by simp)]; exact List.take_of_length_le (by simp)
    have hd : (l.reverse ++ r).drop l.length = r := by
      have := List.drop_left (l₁ := l.reverse) (l₂ := r)
      rwa [List.length_reverse] at this
    have hk : 128 + l.length - 128 = l.length := by omega
    have hh : ¬ l.reverse.head? = some 0 := by
      rw [List.head?_reverse]
      intro e
      exact hz 0 e rfl
    simp only [rdInt, List.cons_append, hc, hk, if_neg (show ¬ 128 + l.length < 128 by omega), ht, hd, List.reverse_reverse, hv]
    rw [if_neg (by simp; omega), if_neg hh, if_neg (by omega)]
    simp; omega
  · next hn =>
    have hl := leb_len8 (m := (-(n + 1)).toNat) (by omega)
    have hv := val_leb (-(n + 1)).toNat
    have hz := leb_last (-(n + 1)).toNat
    generalize lebL (-(n + 1)).toNat = l at *
    have hc : (UInt8.ofNat (127 - l.length)).toNat = 127 - l.length := ofNat_toNat _ (by omega)
    have hlen : (l.map (fun b => 255 - b)).reverse.length = l.length := by simp
    have ht : ((l.map (fun b => 255 - b)).reverse ++ r).take l.length = (l.map (fun b => 255 - b)).reverse := by rw [List.take_append_of_le_length (by simp)]; exact List.take_of_length_le (by simp)
    have hd : ((l.map (fun b => 255 - b)).reverse ++ r).drop l.length = r := by
      have := List.drop_left (l₁ := (l.map (fun b => 255 - b)).reverse) (l₂ := r)
      rwa [hlen] at this
    have hk : 127 - (127 - l.length) = l.length := by omega
    have hf : (l.map (fun b => 255 - b)).reverse.map (fun b => 255 - b) = l.reverse := by rw [List.map_reverse, flips_flips]
    have hh : ¬ l.reverse.head? = some 0 := by
      rw [List.head?_reverse]
      intro e
      exact hz 0 e rfl
    simp only [rdInt, List.cons_append, hc, hk, if_pos (show 127 - l.length < 128 by omega), ht, hd, hf, List.reverse_reverse, hv]
    rw [if_neg (by simp; omega), if_neg hh, if_neg (by omega)]
    simp; omega
theorem intL_rdInt {s r : List UInt8} {n : Int} (h : rdInt s = some (n, r)) : s = intL n ++ r ∧ I64 n := by
  cases s with
  | nil => simp [rdInt] at h
  | cons c s =>
    have hc8 := c.toNat_lt
    simp only [rdInt] at h
    by_cases hc : c.toNat < 128
    · simp only [if_pos hc] at h
      by_cases h1 : 8 < 127 - c.toNat ∨ s.length < 127 - c.toNat
      · rw [if_pos h1] at h; cases h
      · rw [if_neg h1] at h
        have hk : (s.take (127 - c.toNat)).length = 127 - c.toNat := by rw [List.length_take]; omega
        have hs : s = s.take (127 - c.toNat) ++ s.drop (127 - c.toNat) := (List.take_append_drop _ _).symm
        generalize hd : s.take (127 - c.toNat) = d at *
        by_cases h2 : (d.map (fun b => 255 - b)).head? = some 0
        · rw [if_pos h2] at h; cases h
        · rw [if_neg h2] at h
          by_cases h3 : 9223372036854775807 < valL (d.map (fun b => 255 - b)).reverse
          · rw [if_pos h3] at h; cases h
          · rw [if_neg h3] at h
            simp only [Option.some.injEq, Prod.mk.injEq] at h
            obtain ⟨hn, hr⟩ := h
            have hl : lebL (valL (d.map (fun b => 255 - b)).reverse) = (d.map (fun b => 255 - b)).reverse := leb_val _ (fun b hb => by
              rw [List.getLast?_reverse] at hb
              intro e; subst e; exact h2 hb)
            have hm : (-(n + 1)).toNat = valL (d.map (fun b => 255 - b)).reverse := by omega
            refine ⟨?_, by unfold I64; omega⟩
            unfold intL
            rw [if_neg (by omega), hm, hl]
            simp only [List.length_reverse, List.length_map, hk, List.map_reverse, flips_flips, List.reverse_reverse]
            have hce : UInt8.ofNat (127 - (127 - c.toNat)) = c := UInt8.toNat_inj.1 (by rw [ofNat_toNat _ (by omega)]; omega)
            rw [← hr, List.cons_append, ← hs, hce]
    · simp only [if_neg hc] at h
      by_cases h1 : 8 < c.toNat - 128 ∨ s.length < c.toNat - 128
      · rw [if_pos h1] at h; cases h
      · rw [if_neg h1] at h
        have hk : (s.take (c.toNat - 128)).length = c.toNat - 128 := by rw [List.length_take]; omega
        have hs : s = s.take (c.toNat - 128) ++ s.drop (c.toNat - 128) := (List.take_append_drop _ _).symm
        generalize hd : s.take (c.toNat - 128) = d at *
        by_cases h2 : d.head? = some 0
        · rw [if_pos h2] at h; cases h
        · rw [if_neg h2] at h
          by_cases h3 : 9223372036854775807 < valL d.reverse
          · rw [if_pos h3] at h; cases h
          · rw [if_neg h3] at h
            simp only [Option.some.injEq, Prod.mk.injEq] at h
            obtain ⟨hn, hr⟩ := h
            have hl : lebL (valL d.reverse) = d.reverse := leb_val _ (fun b hb => by
              rw [List.getLast?_reverse] at hb
              intro e; subst e; exact h2 hb)
            have hm : n.toNat = valL d.reverse := by omega
            refine ⟨?_, by unfold I64; omega⟩
            unfold intL
            rw [if_pos (by omega), hm, hl]
            simp only [List.length_reverse, hk, List.reverse_reverse]
            have hce : UInt8.ofNat (128 + (c.toNat - 128)) = c := UInt8.toNat_inj.1 (by rw [ofNat_toNat _ (by omega)]; omega)
            rw [← hr, List.cons_append, ← hs, hce]
/-- reading a string -/
def rdText : List UInt8 → Option (List UInt8 × List UInt8)
  | [] => none
  | [_] => none
  | c :: d :: r =>
    if c = 0 then (if d = 1 then some ([], r) else if d = 255 then (rdText r).map fun p => (0 :: p.1, p.2) else none)
    else (rdText (d :: r)).map fun p => (c :: p.1, p.2)
theorem rdText_textL (s r : List UInt8) : rdText (textL s ++ r) = some (s, r) := by
  induction s with
  | nil => simp [textL, escTs, rdText]
  | cons c s ih =>
    have e : textL (c :: s) ++ r = escT c ++ (textL s ++ r) := by simp [textL, escTs]
    rw [e]
    obtain ⟨x, y, hx⟩ : ∃ x y, textL s ++ r = x :: y := by
      cases h : textL s ++ r with
      | nil => simp [textL] at h
      | cons x y => exact ⟨x, y, rfl⟩
    unfold escT
    split
    · next h =>
      subst h
      show rdText (0 :: 255 :: (textL s ++ r)) = _
      rw [rdText, if_pos rfl, if_neg (by decide), if_pos rfl, ih]
      rfl
    · next h =>
      show rdText (c :: (textL s ++ r)) = _
      rw [hx] at ih ⊢
      rw [rdText, if_neg h, ih]
      rfl
theorem textL_rdText {s : List UInt8} : ∀ {t r : List UInt8}, rdText s = some (t, r) → s = textL t ++ r := by
  induction s using rdText.induct with
  | case1 => intro t r h; simp [rdText] at h
  | case2 => intro t r h; simp [rdText] at h
  | case3 q =>
    intro t r h
    rw [rdText, if_pos rfl, if_pos rfl] at h
    simp only [Option.some.injEq, Prod.mk.injEq] at h
    obtain ⟨rfl, rfl⟩ := h
    rfl
  | case4 q _ ih =>
    intro t r h
    rw [rdText, if_pos rfl, if_neg (by decide), if_pos rfl] at h
    obtain ⟨p, hp, he⟩ := Option.map_eq_some_iff.1 h
    simp only [Prod.mk.injEq] at he
    obtain ⟨rfl, rfl⟩ := he
    have := ih hp
    rw [this]
    simp [textL, escTs, escT]
  | case5 d q h1 h2 =>
    intro t r h
    rw [rdText, if_pos rfl, if_neg h1, if_neg h2] at h
    cases h
  | case6 c d q hc ih =>
    intro t r h
    rw [rdText, if_neg hc] at h
    obtain ⟨p, hp, he⟩ := Option.map_eq_some_iff.1 h
    simp only [Prod.mk.injEq] at he
    obtain ⟨rfl, rfl⟩ := he
    have := ih hp
    rw [this]
    simp [textL, escTs, escT, hc]
theorem rdInt_lt {s r : List UInt8} {n : Int} (h : rdInt s = some (n, r)) : r.length < s.length := by
  obtain ⟨h1, h2⟩ := intL_rdInt h
  have := intL_len h2
  rw [h1, List.length_append]
  omega
theorem rdText_lt {s t r : List UInt8} (h : rdText s = some (t, r)) : r.length < s.length := by
  rw [textL_rdText h, List.length_append]
  simp [textL]
/-- reading a list; n is a bound on the number of elements -/
def rdList {α : Type} (f : List UInt8 → Option (α × List UInt8)) : Nat → List UInt8 → Option (List α × List UInt8)
  | 0, _ => none
  | n + 1, s =>
    match s with
    | [] => none
    | c :: r => if c = 0 then some ([], r) else if c = 1 then (match f r with | none => none | some (x, r') => (rdList f n r').map fun p => (x :: p.1, p.2)) else none
theorem rdList_joinL {α : Type} (f : List UInt8 → Option (α × List UInt8)) (e : α → List UInt8) (l : List α) (r : List UInt8) (h : ∀ x ∈ l, ∀ r, f (e x ++ r) = some (x, r)) (n : Nat) (hn : l.length < n) :
    rdList f n (joinL e l ++ r) = some (l, r) := by
  induction l generalizing n with
  | nil =>
    cases n with
    | zero => omega
    | succ n => simp [joinL, rdList]
  | cons x l ih =>
    cases n with
    | zero => omega
    | succ n =>
      have e1 : joinL e (x :: l) ++ r = 1 :: (e x ++ (joinL e l ++ r)) := by simp [joinL]
      rw [e1, rdList]
      simp only [if_neg (show ¬ (1 : UInt8) = 0 by decide), if_true]
      rw [h x (by simp)]
      simp only
      rw [ih (fun y hy => h y (by simp [hy])) n (by simp at hn; omega)]
      rfl
theorem joinL_rdList {α : Type} (f : List UInt8 → Option (α × List UInt8)) (e : α → List UInt8) (hf : ∀ s x r, f s = some (x, r) → s = e x ++ r) (n : Nat) : ∀ (s : List UInt8) (l : List α) (r : List UInt8), rdList f n s = some (l, r) → s = joinL e l ++ r := by
  induction n with
  | zero => intro s l r h; simp [rdList] at h
  | succ n ih =>
    intro s l r h
    cases s with
    | nil => simp [rdList] at h
    | cons c s =>
      simp only [rdList] at h
      by_cases h0 : c = 0
      · rw [if_pos h0] at h
        simp only [Option.some.injEq, Prod.mk.injEq] at h
        obtain ⟨rfl, rfl⟩ := h
        simp [joinL, h0]
      · rw [if_neg h0] at h
        by_cases h1 : c = 1
        · rw [if_pos h1] at h
          cases hq : f s with
          | none => rw [hq] at h; cases h
          | some p =>
            obtain ⟨x, r'⟩ := p
            rw [hq] at h
            simp only at h
            obtain ⟨p, hp, he⟩ := Option.map_eq_some_iff.1 h
            simp only [Prod.mk.injEq] at he
            obtain ⟨rfl, rfl⟩ := he
            rw [hf _ _ _ hq, ih _ _ _ hp, h1]
            simp [joinL]
        · rw [if_neg h1] at h; cases h
/-- a longer purse changes nothing -/
theorem rdList_more {α : Type} (f : List UInt8 → Option (α × List UInt8)) (hf : ∀ s x r, f s = some (x, r) → r.length < s.length) (n : Nat) : ∀ (m : Nat) (s : List UInt8), s.length < n → s.length < m → rdList f n s = rdList f m s := by
  induction n with
  | zero => intro m s h; omega
  | succ n ih =>
    intro m s h1 h2
    cases m with
    | zero => omega
    | succ m =>
      cases s with
      | nil => simp [rdList]
      | cons c s =>
        simp only [rdList]
        cases hq : f s with
        | none => rfl
        | some p =>
          obtain ⟨x, r⟩ := p
          have := hf _ _ _ hq
          simp only [List.length_cons] at h1 h2
          simp only [ih m r (by omega) (by omega)]
end Go.Proofs.Ytleiiedacachjaa
