/- Texts merged: WLaw WOrd WOps WValLaw CLaw -/
/- The encodings of package wire as plain functions on lists of bytes, and their laws. No program in this text. -/
namespace Go.Proofs.YtgjklfddoechpaaGreatDoor
/-- the bytes of a number, the lowest first, without zeros at the end -/
def lebL (m : Nat) : List UInt8 := if m = 0 then [] else UInt8.ofNat (m % 256) :: lebL (m / 256)
termination_by m
decreasing_by omega
/-- the number of bytes, the lowest first -/
def valL : List UInt8 → Nat
  | [] => 0
  | b :: l => b.toNat + 256 * valL l
theorem leb_zero : lebL 0 = [] := by unfold lebL; rfl
theorem leb_pos {m : Nat} (h : m ≠ 0) : lebL m = UInt8.ofNat (m % 256) :: lebL (m / 256) := by rw [lebL, if_neg h]
theorem ofNat_toNat (k : Nat) (h : k < 256) : (UInt8.ofNat k).toNat = k := by simp [UInt8.toNat_ofNat']; omega
theorem val_leb (m : Nat) : valL (lebL m) = m := by
  induction m using Nat.strongRecOn with
  | _ m ih =>
    by_cases h : m = 0
    · subst h; rw [leb_zero]; rfl
    · rw [leb_pos h, valL, ih (m / 256) (by omega), ofNat_toNat _ (by omega)]
      omega
theorem val_append (a b : List UInt8) : valL (a ++ b) = valL a + 256 ^ a.length * valL b := by
  induction a with
  | nil => simp [valL]
  | cons x a ih =>
    simp only [List.cons_append, valL, ih, List.length_cons, Nat.pow_succ]
    rw [Nat.mul_add, ← Nat.mul_assoc, Nat.mul_comm 256 (256 ^ a.length)]
    omega
theorem val_lt (l : List UInt8) : valL l < 256 ^ l.length := by
  induction l with
  | nil => simp [valL]
  | cons x l ih =>
    have := x.toNat_lt
    simp only [valL, List.length_cons, Nat.pow_succ]
    omega
theorem leb_len_le {m k : Nat} (h : m < 256 ^ k) : (lebL m).length ≤ k := by
  induction k generalizing m with
  | zero => simp at h; subst h; rw [leb_zero]; simp
  | succ k ih =>
    by_cases h0 : m = 0
    · subst h0; rw [leb_zero]; simp
    · rw [leb_pos h0, List.length_cons]
      have : m / 256 < 256 ^ k := by rw [Nat.pow_succ] at h; omega
      have := ih this
      omega
theorem leb_lt_len {m k : Nat} (h : (lebL m).length ≤ k) : m < 256 ^ k := by
  have h1 := val_lt (lebL m)
  rw [val_leb] at h1
  exact Nat.lt_of_lt_of_le h1 (Nat.pow_le_pow_right (by omega) h)
theorem leb_len8 {m : Nat} (h : m < 18446744073709551616) : (lebL m).length ≤ 8 := leb_len_le (by simpa using h)
/-- bytes whose last is not zero are those of their number -/
theorem leb_val (l : List UInt8) (h : ∀ b, l.getLast? = some b → b ≠ 0) : lebL (valL l) = l := by
  induction l with
  | nil => rw [valL, leb_zero]
  | cons x l ih =>
    have hx := x.toNat_lt
    by_cases hl : l = []
    · subst hl
      have hx0 : x ≠ 0 := h x (by simp)
      have hn : x.toNat ≠ 0 := fun e => hx0 (UInt8.toNat_inj.1 (by rw [e]; rfl))
      simp only [valL, Nat.mul_zero, Nat.add_zero]
      rw [leb_pos hn]
      have : x.toNat / 256 = 0 := by omega
      rw [this, leb_zero, Nat.mod_eq_of_lt hx]
      simp
    · have ih' := ih (fun b hb => h b (by rw [List.getLast?_cons]; rw [hb]; rfl))
      have hv : valL l ≠ 0 := by
        intro e
        rw [e, leb_zero] at ih'
        exact hl ih'.symm
      have e1 : (x.toNat + 256 * valL l) % 256 = x.toNat := by omega
      have e2 : (x.toNat + 256 * valL l) / 256 = valL l := by omega
      rw [valL, leb_pos (by omega), e1, e2, ih']
      simp
theorem leb_last (m : Nat) : ∀ b, (lebL m).getLast? = some b → b ≠ 0 := by
  induction m using Nat.strongRecOn with
  | _ m ih =>
    intro b hb
    by_cases h : m = 0
    · subst h; rw [leb_zero] at hb; simp at hb
    · rw [leb_pos h, List.getLast?_cons] at hb
      by_cases h2 : m / 256 = 0
      · rw [h2, leb_zero] at hb
        simp only [List.getLast?_nil, Option.getD_none, Option.some.injEq] at hb
        subst hb
        intro e
        have := congrArg UInt8.toNat e
        rw [ofNat_toNat _ (by omega)] at this
        have h3 : (0 : UInt8).toNat = 0 := rfl
        omega
      · cases hq : (lebL (m / 256)).getLast? with
        | none =>
          rw [List.getLast?_eq_none_iff] at hq
          have := val_leb (m / 256)
          rw [hq] at this
          exact absurd this.symm h2
        | some c =>
          rw [hq] at hb
          simp only [Option.getD_some, Option.some.injEq] at hb
          subst hb
          exact ih (m / 256) (by omega) c hq
/-- the encoding of an integer -/
def intL (n : Int) : List UInt8 :=
  if 0 ≤ n then UInt8.ofNat (128 + (lebL n.toNat).length) :: (lebL n.toNat).reverse
  else UInt8.ofNat (127 - (lebL (-(n + 1)).toNat).length) :: ((lebL (-(n + 1)).toNat).map (fun b => 255 - b)).reverse
/-- the encoding of a number that is not negative -/
def numL (n : Int) : List UInt8 := if n < 0 then [] else intL n
def escT (c : UInt8) : List UInt8 := if c = 0 then [0, 255] else [c]
def escTs (s : List UInt8) : List UInt8 := s.flatMap escT
/-- the encoding of a string -/
def textL (s : List UInt8) : List UInt8 := escTs s ++ [0, 1]
/-- the encoding of a list whose elements are encoded by f -/
def joinL {α : Type} (f : α → List UInt8) (l : List α) : List UInt8 := (l.flatMap fun x => 1 :: f x) ++ [0]
def numsL (l : List Int) : List UInt8 := joinL intL l
def textsL (l : List (List UInt8)) : List UInt8 := joinL textL l
/-- an int -/
def I64 (n : Int) : Prop := -9223372036854775808 ≤ n ∧ n ≤ 9223372036854775807
theorem intL_len {n : Int} (h : I64 n) : 1 ≤ (intL n).length ∧ (intL n).length ≤ 9 := by
  unfold I64 at h
  unfold intL
  split
  · have := leb_len8 (m := n.toNat) (by omega)
    simp; omega
  · have := leb_len8 (m := (-(n + 1)).toNat) (by omega)
    simp; omega
theorem escT_len (c : UInt8) : 1 ≤ (escT c).length ∧ (escT c).length ≤ 2 := by
  unfold escT
  split <;> simp
theorem escTs_len (s : List UInt8) : s.length ≤ (escTs s).length ∧ (escTs s).length ≤ 2 * s.length := by
  induction s with
  | nil => simp [escTs]
  | cons c s ih =>
    have := escT_len c
    simp only [escTs, List.flatMap_cons, List.length_append, List.length_cons] at ih ⊢
    omega
theorem textL_len (s : List UInt8) : (textL s).length ≤ 2 * s.length + 2 := by
  have := escTs_len s
  simp [textL]; omega
/-- reading an integer -/
def rdInt (s : List UInt8) : Option (Int × List UInt8) :=
  match s with
  | [] => none
  | c :: r =>
    let k := if c.toNat < 128 then 127 - c.toNat else c.toNat - 128
    if 8 < k ∨ r.length < k then none else
    let d := if c.toNat < 128 then (r.take k).map (fun b => 255 - b) else r.take k
    if d.head? = some 0 then none else
    if 9223372036854775807 < valL d.reverse then none else
    some (if c.toNat < 128 then -(valL d.reverse : Int) - 1 else (valL d.reverse : Int), r.drop k)
theorem flip_flip (b : UInt8) : 255 - (255 - b) = b := by
  apply UInt8.toNat_inj.1
  have := b.toNat_lt
  have h1 : (255 - b).toNat = 255 - b.toNat := by
    rw [UInt8.toNat_sub_of_le]
    · rfl
    · rw [UInt8.le_iff_toNat_le]; show b.toNat ≤ 255; omega
  rw [UInt8.toNat_sub_of_le, h1]
  · show 255 - (255 - b.toNat) = _; omega
  · rw [UInt8.le_iff_toNat_le, h1]; show 255 - b.toNat ≤ 255; omega
theorem flips_flips (l : List UInt8) : (l.map (fun b => 255 - b)).map (fun b => 255 - b) = l := by
  rw [List.map_map]
  conv => rhs; rw [← List.map_id l]
  apply List.map_congr_left
  intro b _
  exact flip_flip b
theorem rdInt_intL {n : Int} (h : I64 n) (r : List UInt8) : rdInt (intL n ++ r) = some (n, r) := by
  unfold I64 at h
  unfold intL
  split
  · next hn =>
    have hl := leb_len8 (m := n.toNat) (by omega)
    have hv := val_leb n.toNat
    have hz := leb_last n.toNat
    generalize lebL n.toNat = l at *
    have hc : (UInt8.ofNat (128 + l.length)).toNat = 128 + l.length := ofNat_toNat _ (by omega)
    have ht : (l.reverse ++ r).take l.length = l.reverse := by rw [List.take_append_of_le_length (by simp)]; exact List.take_of_length_le (by simp)
    have hd : (l.reverse ++ r).drop l.length = r := by
      have := List.drop_left (l₁ := l.reverse) (l₂ := r)
      rwa [List.length_reverse] at this
    have hk : 128 + l.length - 128 = l.length := by omega
    have hh : ¬ l.reverse.head? = some 0 := by
      rw [List.head?_reverse]
      intro e
      exact hz 0 e rfl
    simp only [rdInt, List.cons_append, hc, hk, if_neg (show ¬ 128 + l.length < 128 by omega), ht, hd, List.reverse_reverse, hv]
    rw [if_neg (by simp; omega), if_neg hh, if_neg (by omega)]
    simp; omega
  · next hn =>
    have hl := leb_len8 (m := (-(n + 1)).toNat) (by omega)
    have hv := val_leb (-(n + 1)).toNat
    have hz := leb_last (-(n + 1)).toNat
    generalize lebL (-(n + 1)).toNat = l at *
    have hc : (UInt8.ofNat (127 - l.length)).toNat = 127 - l.length := ofNat_toNat _ (by omega)
    have hlen : (l.map (fun b => 255 - b)).reverse.length = l.length := by simp
    have ht : ((l.map (fun b => 255 - b)).reverse ++ r).take l.length = (l.map (fun b => 255 - b)).reverse := by rw [List.take_append_of_le_length (by simp)]; exact List.take_of_length_le (by simp)
    have hd : ((l.map (fun b => 255 - b)).reverse ++ r).drop l.length = r := by
      have := List.drop_left (l₁ := (l.map (fun b => 255 - b)).reverse) (l₂ := r)
      rwa [hlen] at this
    have hk : 127 - (127 - l.length) = l.length := by omega
    have hf : (l.map (fun b => 255 - b)).reverse.map (fun b => 255 - b) = l.reverse := by rw [List.map_reverse, flips_flips]
    have hh : ¬ l.reverse.head? = some 0 := by
      rw [List.head?_reverse]
      intro e
      exact hz 0 e rfl
    simp only [rdInt, List.cons_append, hc, hk, if_pos (show 127 - l.length < 128 by omega), ht, hd, hf, List.reverse_reverse, hv]
    rw [if_neg (by simp; omega), if_neg hh, if_neg (by omega)]
    simp; omega
theorem intL_rdInt {s r : List UInt8} {n : Int} (h : rdInt s = some (n, r)) : s = intL n ++ r ∧ I64 n := by
  cases s with
  | nil => simp [rdInt] at h
  | cons c s =>
    have hc8 := c.toNat_lt
    simp only [rdInt] at h
    by_cases hc : c.toNat < 128
    · simp only [if_pos hc] at h
      by_cases h1 : 8 < 127 - c.toNat ∨ s.length < 127 - c.toNat
      · rw [if_pos h1] at h; cases h
      · rw [if_neg h1] at h
        have hk : (s.take (127 - c.toNat)).length = 127 - c.toNat := by rw [List.length_take]; omega
        have hs : s = s.take (127 - c.toNat) ++ s.drop (127 - c.toNat) := (List.take_append_drop _ _).symm
        generalize hd : s.take (127 - c.toNat) = d at *
        by_cases h2 : (d.map (fun b => 255 - b)).head? = some 0
        · rw [if_pos h2] at h; cases h
        · rw [if_neg h2] at h
          by_cases h3 : 9223372036854775807 < valL (d.map (fun b => 255 - b)).reverse
          · rw [if_pos h3] at h; cases h
          · rw [if_neg h3] at h
            simp only [Option.some.injEq, Prod.mk.injEq] at h
            obtain ⟨hn, hr⟩ := h
            have hl : lebL (valL (d.map (fun b => 255 - b)).reverse) = (d.map (fun b => 255 - b)).reverse := leb_val _ (fun b hb => by
              rw [List.getLast?_reverse] at hb
              intro e; subst e; exact h2 hb)
            have hm : (-(n + 1)).toNat = valL (d.map (fun b => 255 - b)).reverse := by omega
            refine ⟨?_, by unfold I64; omega⟩
            unfold intL
            rw [if_neg (by omega), hm, hl]
            simp only [List.length_reverse, List.length_map, hk, List.map_reverse, flips_flips, List.reverse_reverse]
            have hce : UInt8.ofNat (127 - (127 - c.toNat)) = c := UInt8.toNat_inj.1 (by rw [ofNat_toNat _ (by omega)]; omega)
            rw [← hr, List.cons_append, ← hs, hce]
    · simp only [if_neg hc] at h
      by_cases h1 : 8 < c.toNat - 128 ∨ s.length < c.toNat - 128
      · rw [if_pos h1] at h; cases h
      · rw [if_neg h1] at h
        have hk : (s.take (c.toNat - 128)).length = c.toNat - 128 := by rw [List.length_take]; omega
        have hs : s = s.take (c.toNat - 128) ++ s.drop (c.toNat - 128) := (List.take_append_drop _ _).symm
        generalize hd : s.take (c.toNat - 128) = d at *
        by_cases h2 : d.head? = some 0
        · rw [if_pos h2] at h; cases h
        · rw [if_neg h2] at h
          by_cases h3 : 9223372036854775807 < valL d.reverse
          · rw [if_pos h3] at h; cases h
          · rw [if_neg h3] at h
            simp only [Option.some.injEq, Prod.mk.injEq] at h
            obtain ⟨hn, hr⟩ := h
            have hl : lebL (valL d.reverse) = d.reverse := leb_val _ (fun b hb => by
              rw [List.getLast?_reverse] at hb
              intro e; subst e; exact h2 hb)
            have hm : n.toNat = valL d.reverse := by omega
            refine ⟨?_, by unfold I64; omega⟩
            unfold intL
            rw [if_pos (by omega), hm, hl]
            simp only [List.length_reverse, hk, List.reverse_reverse]
            have hce : UInt8.ofNat (128 + (c.toNat - 128)) = c := UInt8.toNat_inj.1 (by rw [ofNat_toNat _ (by omega)]; omega)
            rw [← hr, List.cons_append, ← hs, hce]
/-- reading a string -/
def rdText : List UInt8 → Option (List UInt8 × List UInt8)
  | [] => none
  | [_] => none
  | c :: d :: r =>
    if c = 0 then (if d = 1 then some ([], r) else if d = 255 then (rdText r).map fun p => (0 :: p.1, p.2) else none)
    else (rdText (d :: r)).map fun p => (c :: p.1, p.2)
theorem rdText_textL (s r : List UInt8) : rdText (textL s ++ r) = some (s, r) := by
  induction s with
  | nil => simp [textL, escTs, rdText]
  | cons c s ih =>
    have e : textL (c :: s) ++ r = escT c ++ (textL s ++ r) := by simp [textL, escTs]
    rw [e]
    obtain ⟨x, y, hx⟩ : ∃ x y, textL s ++ r = x :: y := by
      cases h : textL s ++ r with
      | nil => simp [textL] at h
      | cons x y => exact ⟨x, y, rfl⟩
    unfold escT
    split
    · next h =>
      subst h
      show rdText (0 :: 255 :: (textL s ++ r)) = _
      rw [rdText, if_pos rfl, if_neg (by decide), if_pos rfl, ih]
      rfl
    · next h =>
      show rdText (c :: (textL s ++ r)) = _
      rw [hx] at ih ⊢
      rw [rdText, if_neg h, ih]
      rfl
theorem textL_rdText {s : List UInt8} : ∀ {t r : List UInt8}, rdText s = some (t, r) → s = textL t ++ r := by
  induction s using rdText.induct with
  | case1 => intro t r h; simp [rdText] at h
  | case2 => intro t r h; simp [rdText] at h
  | case3 q =>
    intro t r h
    rw [rdText, if_pos rfl, if_pos rfl] at h
    simp only [Option.some.injEq, Prod.mk.injEq] at h
    obtain ⟨rfl, rfl⟩ := h
    rfl
  | case4 q _ ih =>
    intro t r h
    rw [rdText, if_pos rfl, if_neg (by decide), if_pos rfl] at h
    obtain ⟨p, hp, he⟩ := Option.map_eq_some_iff.1 h
    simp only [Prod.mk.injEq] at he
    obtain ⟨rfl, rfl⟩ := he
    have := ih hp
    rw [this]
    simp [textL, escTs, escT]
  | case5 d q h1 h2 =>
    intro t r h
    rw [rdText, if_pos rfl, if_neg h1, if_neg h2] at h
    cases h
  | case6 c d q hc ih =>
    intro t r h
    rw [rdText, if_neg hc] at h
    obtain ⟨p, hp, he⟩ := Option.map_eq_some_iff.1 h
    simp only [Prod.mk.injEq] at he
    obtain ⟨rfl, rfl⟩ := he
    have := ih hp
    rw [this]
    simp [textL, escTs, escT, hc]
theorem rdInt_lt {s r : List UInt8} {n : Int} (h : rdInt s = some (n, r)) : r.length < s.length := by
  obtain ⟨h1, h2⟩ := intL_rdInt h
  have := intL_len h2
  rw [h1, List.length_append]
  omega
theorem rdText_lt {s t r : List UInt8} (h : rdText s = some (t, r)) : r.length < s.length := by
  rw [textL_rdText h, List.length_append]
  simp [textL]
/-- reading a list; n is a bound on the number of elements -/
def rdList {α : Type} (f : List UInt8 → Option (α × List UInt8)) : Nat → List UInt8 → Option (List α × List UInt8)
  | 0, _ => none
  | n + 1, s =>
    match s with
    | [] => none
    | c :: r => if c = 0 then some ([], r) else if c = 1 then (match f r with | none => none | some (x, r') => (rdList f n r').map fun p => (x :: p.1, p.2)) else none
theorem rdList_joinL {α : Type} (f : List UInt8 → Option (α × List UInt8)) (e : α → List UInt8) (l : List α) (r : List UInt8) (h : ∀ x ∈ l, ∀ r, f (e x ++ r) = some (x, r)) (n : Nat) (hn : l.length < n) :
    rdList f n (joinL e l ++ r) = some (l, r) := by
  induction l generalizing n with
  | nil =>
    cases n with
    | zero => omega
    | succ n => simp [joinL, rdList]
  | cons x l ih =>
    cases n with
    | zero => omega
    | succ n =>
      have e1 : joinL e (x :: l) ++ r = 1 :: (e x ++ (joinL e l ++ r)) := by simp [joinL]
      rw [e1, rdList]
      simp only [if_neg (show ¬ (1 : UInt8) = 0 by decide), if_true]
      rw [h x (by simp)]
      simp only
      rw [ih (fun y hy => h y (by simp [hy])) n (by simp at hn; omega)]
      rfl
theorem joinL_rdList {α : Type} (f : List UInt8 → Option (α × List UInt8)) (e : α → List UInt8) (hf : ∀ s x r, f s = some (x, r) → s = e x ++ r) (n : Nat) : ∀ (s : List UInt8) (l : List α) (r : List UInt8), rdList f n s = some (l, r) → s = joinL e l ++ r := by
  induction n with
  | zero => intro s l r h; simp [rdList] at h
  | succ n ih =>
    intro s l r h
    cases s with
    | nil => simp [rdList] at h
    | cons c s =>
      simp only [rdList] at h
      by_cases h0 : c = 0
      · rw [if_pos h0] at h
        simp only [Option.some.injEq, Prod.mk.injEq] at h
        obtain ⟨rfl, rfl⟩ := h
        simp [joinL, h0]
      · rw [if_neg h0] at h
        by_cases h1 : c = 1
        · rw [if_pos h1] at h
          cases hq : f s with
          | none => rw [hq] at h; cases h
          | some p =>
            obtain ⟨x, r'⟩ := p
            rw [hq] at h
            simp only at h
            obtain ⟨p, hp, he⟩ := Option.map_eq_some_iff.1 h
            simp only [Prod.mk.injEq] at he
            obtain ⟨rfl, rfl⟩ := he
            rw [hf _ _ _ hq, ih _ _ _ hp, h1]
            simp [joinL]
        · rw [if_neg h1] at h; cases h
/-- a longer purse changes nothing -/
theorem rdList_more {α : Type} (f : List UInt8 → Option (α × List UInt8)) (hf : ∀ s x r, f s = some (x, r) → r.length < s.length) (n : Nat) : ∀ (m : Nat) (s : List UInt8), s.length < n → s.length < m → rdList f n s = rdList f m s := by
  induction n with
  | zero => intro m s h; omega
  | succ n ih =>
    intro m s h1 h2
    cases m with
    | zero => omega
    | succ m =>
      cases s with
      | nil => simp [rdList]
      | cons c s =>
        simp only [rdList]
        cases hq : f s with
        | none => rfl
        | some p =>
          obtain ⟨x, r⟩ := p
          have := hf _ _ _ hq
          simp only [List.length_cons] at h1 h2
          simp only [ih m r (by omega) (by omega)]
end Go.Proofs.YtgjklfddoechpaaGreatDoor
/- Package wire: the order of encodings, and what a reader's calls return, as plain functions. No program in this text. -/
namespace Go.Proofs.YtgjklfddoechpaaGreatDoor
/-- x and y part at some place: x has the lower byte there -/
def Apart (x y : List UInt8) : Prop := ∃ p u v x' y', x = p ++ u :: x' ∧ y = p ++ v :: y' ∧ u.toNat < v.toNat
theorem Apart.front {x y : List UInt8} (h : Apart x y) (p : List UInt8) : Apart (p ++ x) (p ++ y) := by
  obtain ⟨q, u, v, x', y', rfl, rfl, hlt⟩ := h
  exact ⟨p ++ q, u, v, x', y', by simp, by simp, hlt⟩
theorem Apart.back {x y : List UInt8} (h : Apart x y) (a b : List UInt8) : Apart (x ++ a) (y ++ b) := by
  obtain ⟨q, u, v, x', y', rfl, rfl, hlt⟩ := h
  exact ⟨q, u, v, x' ++ a, y' ++ b, by simp, by simp, hlt⟩
theorem Apart.cons {u v : UInt8} (h : u.toNat < v.toNat) (x y : List UInt8) : Apart (u :: x) (v :: y) := ⟨[], u, v, x, y, rfl, rfl, h⟩
theorem Apart.lt {x y : List UInt8} (h : Apart x y) : x < y := by
  obtain ⟨p, u, v, x', y', rfl, rfl, hlt⟩ := h
  induction p with
  | nil => exact List.Lex.rel (by rw [UInt8.lt_iff_toNat_lt]; exact hlt)
  | cons c p ih => exact List.Lex.cons ih
theorem Apart.not_prefix {x y : List UInt8} (h : Apart x y) : ¬ x <+: y ∧ ¬ y <+: x := by
  obtain ⟨p, u, v, x', y', rfl, rfl, hlt⟩ := h
  have hne : u ≠ v := fun e => by rw [e] at hlt; omega
  constructor
  · rintro ⟨z, hz⟩
    rw [List.append_assoc] at hz
    have := List.append_cancel_left hz
    simp at this
    exact hne this.1
  · rintro ⟨z, hz⟩
    rw [List.append_assoc] at hz
    have := List.append_cancel_left hz
    simp at this
    exact hne this.1.symm
/-- two lists of bytes are equal, or one is the other's beginning, or they part -/
theorem parts (x y : List UInt8) : x = y ∨ (∃ c z, y = x ++ c :: z) ∨ (∃ c z, x = y ++ c :: z) ∨ Apart x y ∨ Apart y x := by
  induction x generalizing y with
  | nil =>
    cases y with
    | nil => exact Or.inl rfl
    | cons c y => exact Or.inr (Or.inl ⟨c, y, rfl⟩)
  | cons a x ih =>
    cases y with
    | nil => exact Or.inr (Or.inr (Or.inl ⟨a, x, rfl⟩))
    | cons b y =>
      rcases Nat.lt_trichotomy a.toNat b.toNat with h | h | h
      · exact Or.inr (Or.inr (Or.inr (Or.inl (Apart.cons h _ _))))
      · have : a = b := UInt8.toNat_inj.1 h
        subst this
        rcases ih y with rfl | ⟨c, z, rfl⟩ | ⟨c, z, rfl⟩ | h | h
        · exact Or.inl rfl
        · exact Or.inr (Or.inl ⟨c, z, rfl⟩)
        · exact Or.inr (Or.inr (Or.inl ⟨c, z, rfl⟩))
        · exact Or.inr (Or.inr (Or.inr (Or.inl (h.front [a]))))
        · exact Or.inr (Or.inr (Or.inr (Or.inr (h.front [a]))))
      · exact Or.inr (Or.inr (Or.inr (Or.inr (Apart.cons h _ _))))
theorem apart_of_val {x y : List UInt8} (hl : x.length = y.length) (h : valL x.reverse < valL y.reverse) : Apart x y := by
  rcases parts x y with rfl | ⟨c, z, rfl⟩ | ⟨c, z, rfl⟩ | h' | ⟨p, u, v, x', y', rfl, rfl, hlt⟩
  · omega
  · simp at hl
  · simp at hl
  · exact h'
  · exfalso
    have hl' : y'.length = x'.length := by simpa using hl
    simp only [List.reverse_append, List.reverse_cons, List.append_assoc, val_append, List.length_reverse, valL, List.cons_append, List.nil_append] at h
    have h1 := val_lt x'.reverse
    have h2 := val_lt y'.reverse
    rw [List.length_reverse] at h1 h2
    rw [hl'] at h h2
    have h3 : 256 ^ x'.length * (u.toNat + 256 * valL p.reverse) + 256 ^ x'.length ≤ 256 ^ x'.length * (v.toNat + 256 * valL p.reverse) := by
      rw [← Nat.mul_succ]
      exact Nat.mul_le_mul_left _ (by omega)
    omega
theorem apart_flip {x y : List UInt8} (h : Apart x y) : Apart (y.map (fun b => 255 - b)) (x.map (fun b => 255 - b)) := by
  obtain ⟨p, u, v, x', y', rfl, rfl, hlt⟩ := h
  have hf : ∀ b : UInt8, (255 - b).toNat = 255 - b.toNat := fun b => by
    have := b.toNat_lt
    rw [UInt8.toNat_sub_of_le]
    · rfl
    · rw [UInt8.le_iff_toNat_le]; show b.toNat ≤ 255; omega
  have := v.toNat_lt
  exact ⟨p.map (fun b => 255 - b), 255 - v, 255 - u, y'.map (fun b => 255 - b), x'.map (fun b => 255 - b), by simp, by simp, by rw [hf, hf]; omega⟩
theorem leb_mono {a b : Nat} (h : a < b) : (lebL a).length < (lebL b).length ∨ ((lebL a).length = (lebL b).length ∧ Apart (lebL a).reverse (lebL b).reverse) := by
  rcases Nat.lt_trichotomy (lebL a).length (lebL b).length with h1 | h1 | h1
  · exact Or.inl h1
  · refine Or.inr ⟨h1, apart_of_val (by simpa using h1) ?_⟩
    rw [List.reverse_reverse, List.reverse_reverse, val_leb, val_leb]
    exact h
  · exfalso
    have := leb_len_le (m := a) (k := (lebL b).length) (Nat.lt_trans h (leb_lt_len (Nat.le_refl _)))
    omega
theorem intL_apart {a b : Int} (ha : I64 a) (hb : I64 b) (h : a < b) : Apart (intL a) (intL b) := by
  unfold I64 at ha hb
  unfold intL
  by_cases h1 : 0 ≤ a
  · rw [if_pos h1, if_pos (by omega)]
    have l1 := leb_len8 (m := a.toNat) (by omega)
    have l2 := leb_len8 (m := b.toNat) (by omega)
    rcases leb_mono (a := a.toNat) (b := b.toNat) (by omega) with h2 | ⟨h2, h3⟩
    · exact Apart.cons (by rw [ofNat_toNat _ (by omega), ofNat_toNat _ (by omega)]; omega) _ _
    · rw [h2]
      exact h3.front [_]
  · rw [if_neg h1]
    have l1 := leb_len8 (m := (-(a + 1)).toNat) (by omega)
    by_cases h2 : 0 ≤ b
    · rw [if_pos h2]
      have l2 := leb_len8 (m := b.toNat) (by omega)
      exact Apart.cons (by rw [ofNat_toNat _ (by omega), ofNat_toNat _ (by omega)]; omega) _ _
    · rw [if_neg h2]
      have l2 := leb_len8 (m := (-(b + 1)).toNat) (by omega)
      rcases leb_mono (a := (-(b + 1)).toNat) (b := (-(a + 1)).toNat) (by omega) with h3 | ⟨h3, h4⟩
      · exact Apart.cons (by rw [ofNat_toNat _ (by omega), ofNat_toNat _ (by omega)]; omega) _ _
      · rw [h3, ← List.map_reverse, ← List.map_reverse]
        exact (apart_flip h4).front [_]
theorem escTs_append (a b : List UInt8) : escTs (a ++ b) = escTs a ++ escTs b := List.flatMap_append
theorem textL_apart {a b : List UInt8} (h : a < b) : Apart (textL a) (textL b) := by
  have irr : ¬ b < a := List.lt_asymm h
  rcases parts a b with rfl | ⟨c, z, rfl⟩ | ⟨c, z, rfl⟩ | ⟨p, u, v, x', y', rfl, rfl, hlt⟩ | h'
  · exact absurd h irr
  · unfold textL
    rw [escTs_append, List.append_assoc]
    refine Apart.front ?_ _
    show Apart [0, 1] ((escT c ++ escTs z) ++ [0, 1])
    unfold escT
    split
    · exact (Apart.cons (u := 1) (v := 255) (by decide) [] (escTs z ++ [0, 1])).front [0]
    · next hc =>
      have : c.toNat ≠ 0 := fun e => hc (UInt8.toNat_inj.1 (by rw [e]; rfl))
      exact Apart.cons (u := 0) (v := c) (by show 0 < c.toNat; omega) [1] (escTs z ++ [0, 1])
  · exfalso
    refine irr ?_
    clear h irr
    induction b with
    | nil => exact List.Lex.nil
    | cons d b ih => exact List.Lex.cons ih
  · unfold textL
    rw [escTs_append, escTs_append, List.append_assoc, List.append_assoc]
    refine Apart.front ?_ _
    show Apart ((escT u ++ escTs x') ++ [0, 1]) ((escT v ++ escTs y') ++ [0, 1])
    have hv : v ≠ 0 := fun e => by subst e; simp at hlt
    unfold escT
    rw [if_neg hv]
    split
    · next hu =>
      subst hu
      exact Apart.cons hlt (255 :: (escTs x' ++ [0, 1])) (escTs y' ++ [0, 1])
    · exact Apart.cons hlt (escTs x' ++ [0, 1]) (escTs y' ++ [0, 1])
  · exact absurd h'.lt irr
/-- two lists part at the first elements that differ -/
theorem joinL_apart {α : Type} (f : α → List UInt8) (p l m : List α) (x y : α) (h : Apart (f x) (f y)) : Apart (joinL f (p ++ x :: l)) (joinL f (p ++ y :: m)) := by
  unfold joinL
  simp only [List.flatMap_append, List.flatMap_cons, List.append_assoc, List.cons_append]
  refine Apart.front ?_ _
  exact (h.back _ _).front [1]
theorem joinL_short {α : Type} (f : α → List UInt8) (p m : List α) (y : α) : Apart (joinL f p) (joinL f (p ++ y :: m)) := by
  unfold joinL
  simp only [List.flatMap_append, List.flatMap_cons, List.append_assoc, List.cons_append]
  refine Apart.front ?_ _
  exact Apart.cons (by decide) [] _
/-- what a reader holds: none once it has failed -/
abbrev RSt := Option (List UInt8)
def opInt (s : RSt) : Int × RSt :=
  match s with
  | none => (0, none)
  | some r => match rdInt r with | none => (0, none) | some (n, r') => (n, some r')
def opNum (s : RSt) : Int × RSt := if (opInt s).1 < 0 then (0, none) else opInt s
def opText (s : RSt) : List UInt8 × RSt :=
  match s with
  | none => ([], none)
  | some r => match rdText r with | none => ([], none) | some (n, r') => (n, some r')
def opList {α : Type} (f : List UInt8 → Option (α × List UInt8)) (s : RSt) : List α × RSt :=
  match s with
  | none => ([], none)
  | some r => match rdList f (r.length + 1) r with | none => ([], none) | some (n, r') => (n, some r')
def opNums (s : RSt) : List Int × RSt := opList rdInt s
def opTexts (s : RSt) : List (List UInt8) × RSt := opList rdText s
def leftOf (s : RSt) : Nat := match s with | none => 0 | some r => r.length
def doneOf (s : RSt) : Bool := s == some []
end Go.Proofs.YtgjklfddoechpaaGreatDoor
/- Package wire: what a reader's calls have read, and known answers. No program in this text. -/
namespace Go.Proofs.YtgjklfddoechpaaGreatDoor
/-- E has been read of cur, st is left; or the call has failed, and cur is not E -/
def OpOk (cur E : List UInt8) (st : RSt) : Prop := (∃ r, st = some r ∧ cur = E ++ r) ∨ (st = none ∧ cur ≠ E ∧ E.length ≤ 2)
theorem lebL_0 : lebL 0 = [] := leb_zero
theorem lebL_1 : lebL 1 = [1] := by rw [leb_pos (by decide), show 1 / 256 = 0 from rfl, leb_zero]; rfl
theorem lebL_256 : lebL 256 = [0, 1] := by rw [leb_pos (by decide), show 256 / 256 = 1 from rfl, lebL_1]; rfl
theorem intL_0 : intL 0 = [128] := by
  unfold intL
  rw [if_pos (by decide), show (0 : Int).toNat = 0 from rfl, leb_zero]
  rfl
theorem numL_0 : numL 0 = [128] := by rw [numL, if_neg (by decide), intL_0]
theorem numL_256 : numL 256 = [130, 1, 0] := by
  rw [numL, if_neg (by decide)]
  unfold intL
  rw [if_pos (by decide), show (256 : Int).toNat = 256 from rfl, lebL_256]
  rfl
theorem intL_m2 : intL (-2) = [126, 254] := by
  unfold intL
  rw [if_neg (by decide), show (-(-2 + 1) : Int).toNat = 1 from rfl, lebL_1]
  rfl
theorem numL_m1 : numL (-1) = [] := by rw [numL, if_pos (by decide)]
theorem i64_0 : I64 0 := by unfold I64; omega
theorem opInt_none : opInt none = (0, none) := rfl
theorem ok_int (cur : List UInt8) : OpOk cur (intL (opInt (some cur)).1) (opInt (some cur)).2 ∧ I64 (opInt (some cur)).1 := by
  unfold opInt
  cases h : rdInt cur with
  | none =>
    simp only [h]
    refine ⟨Or.inr ⟨rfl, fun e => ?_, by rw [intL_0]; decide⟩, i64_0⟩
    have := rdInt_intL i64_0 []
    rw [List.append_nil, ← e, h] at this
    cases this
  | some p =>
    obtain ⟨n, r⟩ := p
    simp only [h]
    obtain ⟨h1, h2⟩ := intL_rdInt h
    exact ⟨Or.inl ⟨r, rfl, h1⟩, h2⟩
theorem ok_num (cur : List UInt8) : OpOk cur (numL (opNum (some cur)).1) (opNum (some cur)).2 ∧ I64 (opNum (some cur)).1 := by
  unfold opNum
  by_cases hn : (opInt (some cur)).1 < 0
  · rw [if_pos hn]
    refine ⟨Or.inr ⟨rfl, fun e => ?_, by rw [numL_0]; decide⟩, i64_0⟩
    have := rdInt_intL i64_0 []
    rw [numL, if_neg (by decide)] at e
    rw [List.append_nil, ← e] at this
    unfold opInt at hn
    simp only [this] at hn
    omega
  · rw [if_neg hn]
    have := ok_int cur
    unfold numL
    rw [if_neg hn]
    exact this
theorem ok_text (cur : List UInt8) : OpOk cur (textL (opText (some cur)).1) (opText (some cur)).2 := by
  unfold opText
  cases h : rdText cur with
  | none =>
    simp only [h]
    refine Or.inr ⟨rfl, fun e => ?_, by decide⟩
    have := rdText_textL [] []
    rw [List.append_nil, ← e, h] at this
    cases this
  | some p =>
    obtain ⟨n, r⟩ := p
    simp only [h]
    exact Or.inl ⟨r, rfl, textL_rdText h⟩
theorem rdList_all {α : Type} (f : List UInt8 → Option (α × List UInt8)) (P : α → Prop) (hf : ∀ s x r, f s = some (x, r) → P x) (n : Nat) : ∀ (s : List UInt8) (l : List α) (r : List UInt8), rdList f n s = some (l, r) → ∀ x ∈ l, P x := by
  induction n with
  | zero => intro s l r h; simp [rdList] at h
  | succ n ih =>
    intro s l r h
    cases s with
    | nil => simp [rdList] at h
    | cons c s =>
      simp only [rdList] at h
      by_cases h0 : c = 0
      · rw [if_pos h0] at h
        simp only [Option.some.injEq, Prod.mk.injEq] at h
        obtain ⟨rfl, rfl⟩ := h
        simp
      · rw [if_neg h0] at h
        by_cases h1 : c = 1
        · rw [if_pos h1] at h
          cases hq : f s with
          | none => rw [hq] at h; cases h
          | some p =>
            obtain ⟨x, r'⟩ := p
            rw [hq] at h
            simp only at h
            obtain ⟨p, hp, he⟩ := Option.map_eq_some_iff.1 h
            simp only [Prod.mk.injEq] at he
            obtain ⟨rfl, rfl⟩ := he
            intro y hy
            rcases List.mem_cons.1 hy with rfl | hy
            · exact hf _ _ _ hq
            · exact ih _ _ _ hp y hy
        · rw [if_neg h1] at h; cases h
theorem ok_list {α : Type} (f : List UInt8 → Option (α × List UInt8)) (e : α → List UInt8) (hf : ∀ s x r, f s = some (x, r) → s = e x ++ r) (P : α → Prop) (hP : ∀ s x r, f s = some (x, r) → P x) (cur : List UInt8) :
    OpOk cur (joinL e (opList f (some cur)).1) (opList f (some cur)).2 ∧ ∀ x ∈ (opList f (some cur)).1, P x := by
  unfold opList
  cases h : rdList f (cur.length + 1) cur with
  | none =>
    simp only [h]
    refine ⟨Or.inr ⟨rfl, fun e0 => ?_, Nat.le_succ 1⟩, by simp⟩
    have e1 : cur = [0] := e0
    subst e1
    cases h
  | some p =>
    obtain ⟨n, r⟩ := p
    simp only [h]
    exact ⟨Or.inl ⟨r, rfl, joinL_rdList f e hf _ _ _ _ h⟩, rdList_all f P hP _ _ _ _ h⟩
theorem ok_nums (cur : List UInt8) : OpOk cur (numsL (opNums (some cur)).1) (opNums (some cur)).2 ∧ ∀ x ∈ (opNums (some cur)).1, I64 x :=
  ok_list rdInt intL (fun _ _ _ h => (intL_rdInt h).1) I64 (fun _ _ _ h => (intL_rdInt h).2) cur
theorem ok_texts (cur : List UInt8) : OpOk cur (textsL (opTexts (some cur)).1) (opTexts (some cur)).2 :=
  (ok_list rdText textL (fun _ _ _ h => textL_rdText h) (fun _ => True) (fun _ _ _ _ => trivial) cur).1
theorem joinL_len {α : Type} (e : α → List UInt8) (l : List α) : l.length ≤ (joinL e l).length ∧ ∀ x ∈ l, (e x).length ≤ (joinL e l).length := by
  induction l with
  | nil => simp [joinL]
  | cons y l ih =>
    have h1 : (joinL e (y :: l)).length = 1 + (e y).length + (joinL e l).length := by simp [joinL]; omega
    rw [h1]
    refine ⟨by simp; omega, fun x hx => ?_⟩
    rcases List.mem_cons.1 hx with rfl | hx
    · omega
    · have := ih.2 x hx; omega
theorem textL_ge (s : List UInt8) : s.length ≤ (textL s).length := by
  have := escTs_len s
  simp [textL]; omega
theorem OpOk.len {cur E : List UInt8} {st : RSt} (h : OpOk cur E st) : E.length ≤ cur.length + 2 := by
  rcases h with ⟨r, _, h⟩ | ⟨_, _, h⟩
  · rw [h, List.length_append]; omega
  · omega
theorem kat1 : opNum (some [129, 5, 126, 97, 0, 1]) = (5, some [126, 97, 0, 1]) := by decide
theorem kat2 : opInt (some [127]) = (-1, some []) := by decide
theorem kat3 : textL [97] = [97, 0, 1] := by decide
end Go.Proofs.YtgjklfddoechpaaGreatDoor
/- bournelaw02: values, their encodings, and their order. No program in this text. -/
namespace Go.Proofs.YtgjklfddoechpaaGreatDoor
structure VV where
  kind : Int
  n : Int
  s : ByteArray
  l : List Int
  t : List ByteArray
def k4 (x : VV) : Int := x.kind % 4
def textC (s : ByteArray) : List UInt8 := textL s.data.toList
/-- the encoding of a value -/
def encV (x : VV) : List UInt8 := if k4 x = 0 then intL x.n else if k4 x = 1 then textC x.s else if k4 x = 2 then joinL intL x.l else joinL textC x.t
def allL (xs : List VV) : List UInt8 := xs.flatMap encV
theorem k4_range (x : VV) : k4 x = 0 ∨ k4 x = 1 ∨ k4 x = 2 ∨ k4 x = 3 := by unfold k4; omega
theorem opInt_enc {n : Int} (h : I64 n) (r : List UInt8) : opInt (some (intL n ++ r)) = (n, some r) := by
  unfold opInt
  simp only [rdInt_intL h]
theorem opText_enc (s r : List UInt8) : opText (some (textL s ++ r)) = (s, some r) := by
  unfold opText
  simp only [rdText_textL]
theorem opNums_enc {l : List Int} (h : ∀ x ∈ l, I64 x) (r : List UInt8) : opNums (some (joinL intL l ++ r)) = (l, some r) := by
  unfold opNums opList
  have h1 := (joinL_len intL l).1
  have := rdList_joinL rdInt intL l r (fun x hx r => rdInt_intL (h x hx) r) ((joinL intL l ++ r).length + 1) (by rw [List.length_append]; omega)
  simp only [this]
theorem opTexts_enc (l : List (List UInt8)) (r : List UInt8) : opTexts (some (joinL textL l ++ r)) = (l, some r) := by
  unfold opTexts opList
  have h1 := (joinL_len textL l).1
  have := rdList_joinL rdText textL l r (fun x _ r => rdText_textL x r) ((joinL textL l ++ r).length + 1) (by rw [List.length_append]; omega)
  simp only [this]
theorem joinC (l : List ByteArray) : joinL textC l = joinL textL (l.map (·.data.toList)) := by
  unfold joinL
  rw [List.flatMap_map]
  rfl
/-- three-way comparisons -/
def cmpI (a b : Int) : Int := if a < b then -1 else if b < a then 1 else 0
def cmpT (a b : ByteArray) : Int := if a.data.toList < b.data.toList then -1 else if b.data.toList < a.data.toList then 1 else 0
def cmpLs {α : Type} [DecidableEq α] (c : α → α → Int) : List α → List α → Int
  | [], [] => 0
  | [], _ :: _ => -1
  | _ :: _, [] => 1
  | x :: a, y :: b => if x = y then cmpLs c a b else c x y
def cmpV (a b : VV) : Int := if k4 a = 0 then cmpI a.n b.n else if k4 a = 1 then cmpT a.s b.s else if k4 a = 2 then cmpLs cmpI a.l b.l else cmpLs cmpT a.t b.t
/-- what a comparison says of the encodings -/
def Says (c : Int) (x y : List UInt8) : Prop := (c = -1 ∧ Apart x y) ∨ (c = 1 ∧ Apart y x) ∨ (c = 0 ∧ x = y)
theorem says_int {a b : Int} (ha : I64 a) (hb : I64 b) : Says (cmpI a b) (intL a) (intL b) := by
  unfold cmpI
  by_cases h : a < b
  · rw [if_pos h]; exact Or.inl ⟨rfl, intL_apart ha hb h⟩
  · rw [if_neg h]
    by_cases h2 : b < a
    · rw [if_pos h2]; exact Or.inr (Or.inl ⟨rfl, intL_apart hb ha h2⟩)
    · rw [if_neg h2]; exact Or.inr (Or.inr ⟨rfl, by rw [show a = b by omega]⟩)
theorem list_tri (a b : List UInt8) : a < b ∨ a = b ∨ b < a := by
  rcases parts a b with h | ⟨c, z, rfl⟩ | ⟨c, z, rfl⟩ | h | h
  · exact Or.inr (Or.inl h)
  · left
    induction a with
    | nil => exact List.Lex.nil
    | cons d a ih => exact List.Lex.cons ih
  · right; right
    induction b with
    | nil => exact List.Lex.nil
    | cons d b ih => exact List.Lex.cons ih
  · exact Or.inl h.lt
  · exact Or.inr (Or.inr h.lt)
theorem says_text (a b : ByteArray) : Says (cmpT a b) (textC a) (textC b) := by
  unfold cmpT
  by_cases h : a.data.toList < b.data.toList
  · rw [if_pos h]; exact Or.inl ⟨rfl, textL_apart h⟩
  · rw [if_neg h]
    by_cases h2 : b.data.toList < a.data.toList
    · rw [if_pos h2]; exact Or.inr (Or.inl ⟨rfl, textL_apart h2⟩)
    · rw [if_neg h2]
      refine Or.inr (Or.inr ⟨rfl, ?_⟩)
      rcases list_tri a.data.toList b.data.toList with h3 | h3 | h3
      · exact absurd h3 h
      · unfold textC; rw [h3]
      · exact absurd h3 h2
theorem Says.cons {c : Int} {x y : List UInt8} (p : List UInt8) (h : Says c x y) : Says c (p ++ x) (p ++ y) := by
  rcases h with ⟨h1, h2⟩ | ⟨h1, h2⟩ | ⟨h1, h2⟩
  · exact Or.inl ⟨h1, h2.front p⟩
  · exact Or.inr (Or.inl ⟨h1, h2.front p⟩)
  · exact Or.inr (Or.inr ⟨h1, by rw [h2]⟩)
theorem joinL_cons {α : Type} (f : α → List UInt8) (x : α) (l : List α) : joinL f (x :: l) = (1 :: f x) ++ joinL f l := by simp [joinL]
theorem says_list {α : Type} [DecidableEq α] (c : α → α → Int) (f : α → List UInt8) (ok : α → Prop) (hc : ∀ x y, ok x → ok y → Says (c x y) (f x) (f y)) (hne : ∀ x y, ok x → ok y → x ≠ y → c x y ≠ 0) :
    ∀ a b : List α, (∀ x ∈ a, ok x) → (∀ x ∈ b, ok x) → Says (cmpLs c a b) (joinL f a) (joinL f b) := by
  intro a
  induction a with
  | nil =>
    intro b _ _
    cases b with
    | nil => exact Or.inr (Or.inr ⟨rfl, rfl⟩)
    | cons y b =>
      refine Or.inl ⟨rfl, ?_⟩
      rw [joinL_cons]
      exact Apart.cons (u := 0) (v := 1) (by decide) [] (f y ++ joinL f b)
  | cons x a ih =>
    intro b ha hb
    cases b with
    | nil =>
      refine Or.inr (Or.inl ⟨rfl, ?_⟩)
      rw [joinL_cons]
      exact Apart.cons (u := 0) (v := 1) (by decide) [] (f x ++ joinL f a)
    | cons y b =>
      unfold cmpLs
      by_cases hxy : x = y
      · rw [if_pos hxy, joinL_cons, joinL_cons, hxy]
        exact (ih b (fun z hz => ha z (by simp [hz])) (fun z hz => hb z (by simp [hz]))).cons _
      · rw [if_neg hxy, joinL_cons, joinL_cons]
        have hx := ha x (by simp)
        have hy := hb y (by simp)
        rcases hc x y hx hy with ⟨h1, h2⟩ | ⟨h1, h2⟩ | ⟨h1, h2⟩
        · exact Or.inl ⟨h1, (h2.front [1]).back _ _⟩
        · exact Or.inr (Or.inl ⟨h1, (h2.front [1]).back _ _⟩)
        · exact absurd h1 (hne x y hx hy hxy)
theorem cmpI_ne {a b : Int} (h : a ≠ b) : cmpI a b ≠ 0 := by
  unfold cmpI
  split
  · decide
  · split
    · decide
    · omega
theorem cmpT_ne {a b : ByteArray} (h : a ≠ b) : cmpT a b ≠ 0 := by
  unfold cmpT
  split
  · decide
  · split
    · decide
    · next h1 h2 =>
      rcases list_tri a.data.toList b.data.toList with h3 | h3 | h3
      · exact absurd h3 h1
      · exfalso
        apply h
        cases a; cases b
        simp at h3
        rw [h3]
      · exact absurd h3 h2
def VOk (x : VV) : Prop := I64 x.kind ∧ I64 x.n ∧ x.s.size ≤ maxV ∧ x.l.length ≤ maxV ∧ (∀ i ∈ x.l, I64 i) ∧ x.t.length ≤ maxV ∧ ∀ s ∈ x.t, s.size ≤ maxV
where maxV : Nat := 9223372036854775807
theorem says_val {a b : VV} (ha : VOk a) (hb : VOk b) (hk : k4 a = k4 b) : Says (cmpV a b) (encV a) (encV b) := by
  unfold cmpV encV
  rw [← hk]
  obtain ⟨_, a1, _, _, a2, _, _⟩ := ha
  obtain ⟨_, b1, _, _, b2, _, _⟩ := hb
  by_cases h0 : k4 a = 0
  · rw [if_pos h0, if_pos h0, if_pos h0]; exact says_int a1 b1
  · rw [if_neg h0, if_neg h0, if_neg h0]
    by_cases h1 : k4 a = 1
    · rw [if_pos h1, if_pos h1, if_pos h1]; exact says_text _ _
    · rw [if_neg h1, if_neg h1, if_neg h1]
      by_cases h2 : k4 a = 2
      · rw [if_pos h2, if_pos h2, if_pos h2]
        exact says_list cmpI intL I64 (fun x y hx hy => says_int hx hy) (fun x y _ _ h => cmpI_ne h) _ _ a2 b2
      · rw [if_neg h2, if_neg h2, if_neg h2]
        exact says_list cmpT textC (fun _ => True) (fun x y _ _ => says_text x y) (fun x y _ _ h => cmpT_ne h) _ _ (fun _ _ => trivial) (fun _ _ => trivial)
theorem allL_cons (x : VV) (l : List VV) : allL (x :: l) = encV x ++ allL l := rfl
/-- two sequences whose encodings agree for the first k values: the rest decides -/
theorem all_split (a : List VV) (k : Nat) (x : VV) (h : a[k]? = some x) : allL a = allL (a.take k) ++ (encV x ++ allL (a.drop (k + 1))) := by
  have hl := (List.getElem?_eq_some_iff.1 h).1
  rw [List.getElem?_eq_getElem hl] at h
  have e : a = a.take k ++ (x :: a.drop (k + 1)) := by
    rw [← Option.some.inj h, ← List.drop_eq_getElem_cons hl, List.take_append_drop]
  have e2 : allL a = allL (a.take k ++ (x :: a.drop (k + 1))) := by rw [← e]
  rw [e2]
  unfold allL
  rw [List.flatMap_append]
  rfl
theorem all_first {a b : List VV} {k : Nat} {x y : VV} {c : Int} (ha : a[k]? = some x) (hb : b[k]? = some y) (he : allL (a.take k) = allL (b.take k)) (hs : Says c (encV x) (encV y)) (hc : c ≠ 0) :
    (c = -1 ∧ Apart (allL a) (allL b)) ∨ (c = 1 ∧ Apart (allL b) (allL a)) := by
  rw [all_split a k x ha, all_split b k y hb, he]
  rcases hs with ⟨h1, h2⟩ | ⟨h1, h2⟩ | ⟨h1, h2⟩
  · exact Or.inl ⟨h1, (h2.back _ _).front _⟩
  · exact Or.inr ⟨h1, (h2.back _ _).front _⟩
  · exact absurd h1 hc
theorem all_next {a b : List VV} {k : Nat} {x y : VV} (ha : a[k]? = some x) (hb : b[k]? = some y) (he : allL (a.take k) = allL (b.take k)) (hs : encV x = encV y) : allL (a.take (k + 1)) = allL (b.take (k + 1)) := by
  rw [List.take_add_one, List.take_add_one, ha, hb]
  unfold allL at he ⊢
  rw [List.flatMap_append, List.flatMap_append, he]
  simp [hs]
theorem all_prefix {a b : List VV} (_h : a.length ≤ b.length) (he : allL (a.take a.length) = allL (b.take a.length)) : allL a <+: allL b := by
  rw [List.take_of_length_le (Nat.le_refl _)] at he
  refine ⟨allL (b.drop a.length), ?_⟩
  rw [he]
  unfold allL
  rw [← List.flatMap_append, List.take_append_drop]
end Go.Proofs.YtgjklfddoechpaaGreatDoor
/- Package claim: claims and promises as plain values. No program in this text. -/
namespace Go.Proofs.YtgjklfddoechpaaGreatDoor
/-- a claim -/
structure CV where
  office : Int
  hour : Int
  inn : Int
  out : Int
  store : Int
  prev : ByteArray
  e : Int
  s : Int
/-- a promise -/
structure PV where
  office : Int
  since : Int
  till : Int
  litres : Int
  e : Int
  s : Int
def zeroC : CV := ⟨0, 0, 0, 0, 0, ⟨#[]⟩, 0, 0⟩
def zeroP : PV := ⟨0, 0, 0, 0, 0, 0⟩
def COk (c : CV) : Prop := I64 c.office ∧ I64 c.hour ∧ I64 c.inn ∧ I64 c.out ∧ I64 c.store ∧ I64 c.e ∧ I64 c.s
def POk (p : PV) : Prop := I64 p.office ∧ I64 p.since ∧ I64 p.till ∧ I64 p.litres ∧ I64 p.e ∧ I64 p.s
theorem opInt_some {s : RSt} {n : Int} {r : List UInt8} (h : opInt s = (n, some r)) : ∃ s0, s = some s0 ∧ s0 = intL n ++ r := by
  cases s with
  | none => simp [opInt] at h
  | some s0 =>
    refine ⟨s0, rfl, ?_⟩
    unfold opInt at h
    simp only at h
    cases hr : rdInt s0 with
    | none => rw [hr] at h; simp at h
    | some p =>
      rw [hr] at h
      obtain ⟨m, r'⟩ := p
      simp only [Prod.mk.injEq, Option.some.injEq] at h
      rw [← h.1, ← h.2]
      exact (intL_rdInt hr).1
theorem opText_some {s : RSt} {n : List UInt8} {r : List UInt8} (h : opText s = (n, some r)) : ∃ s0, s = some s0 ∧ s0 = textL n ++ r := by
  cases s with
  | none => simp [opText] at h
  | some s0 =>
    refine ⟨s0, rfl, ?_⟩
    unfold opText at h
    simp only at h
    cases hr : rdText s0 with
    | none => rw [hr] at h; simp at h
    | some p =>
      rw [hr] at h
      obtain ⟨m, r'⟩ := p
      simp only [Prod.mk.injEq, Option.some.injEq] at h
      rw [← h.1, ← h.2]
      exact textL_rdText hr
def coreC (c : CV) : List UInt8 := intL c.office ++ (intL c.hour ++ (intL c.inn ++ (intL c.out ++ (intL c.store ++ (textC c.prev)))))
def bytesC (c : CV) : List UInt8 := coreC c ++ (intL c.e ++ intL c.s)
def callsC (s : RSt) : CV × RSt :=
  let x0 := opInt s
  let x1 := opInt x0.2
  let x2 := opInt x1.2
  let x3 := opInt x2.2
  let x4 := opInt x3.2
  let x5 := opText x4.2
  let x6 := opInt x5.2
  let x7 := opInt x6.2
  (⟨x0.1, x1.1, x2.1, x3.1, x4.1, ⟨x5.1.toArray⟩, x6.1, x7.1⟩, x7.2)
def readC (s : List UInt8) : CV × Bool := if doneOf (callsC (some s)).2 = true then ((callsC (some s)).1, true) else (zeroC, false)
theorem callsC_enc {c : CV} (h : COk c) (r : List UInt8) : callsC (some (bytesC c ++ r)) = (c, some r) := by
  obtain ⟨h_office, h_hour, h_inn, h_out, h_store, h_e, h_s⟩ := h
  have e1 : bytesC c ++ r = intL c.office ++ (intL c.hour ++ (intL c.inn ++ (intL c.out ++ (intL c.store ++ (textC c.prev ++ (intL c.e ++ (intL c.s ++ (r)))))))) := by simp [bytesC, coreC]
  unfold callsC
  rw [e1]
  rw [opInt_enc h_office]
  simp only
  rw [opInt_enc h_hour]
  simp only
  rw [opInt_enc h_inn]
  simp only
  rw [opInt_enc h_out]
  simp only
  rw [opInt_enc h_store]
  simp only
  unfold textC
  rw [opText_enc]
  simp only
  rw [opInt_enc h_e]
  simp only
  rw [opInt_enc h_s]
theorem readC_enc {c : CV} (h : COk c) : readC (bytesC c) = (c, true) := by
  unfold readC
  have e := callsC_enc h []
  rw [List.append_nil] at e
  rw [e]
  exact if_pos rfl
theorem readC_more {c : CV} (h : COk c) (x : UInt8) (r : List UInt8) : readC (bytesC c ++ (x :: r)) = (zeroC, false) := by
  unfold readC
  rw [callsC_enc h, if_neg (fun e => by simp [doneOf] at e)]
theorem bytesC_inj {c d : CV} (hc : COk c) (hd : COk d) : bytesC c = bytesC d ↔ c = d := by
  constructor
  · intro h
    have h1 := readC_enc hc
    rw [h, readC_enc hd] at h1
    exact (Prod.mk.inj h1).1.symm
  · intro h
    rw [h]
theorem readC_not {s : List UInt8} (h : (readC s).2 = false) : readC s = (zeroC, false) := by
  unfold readC at h ⊢
  split
  · next hc => rw [if_pos hc] at h; cases h
  · rfl
theorem rdInt_okC (s : RSt) : I64 (opInt s).1 := by
  cases s with
  | none => exact i64_0
  | some r => exact (ok_int r).2
theorem callsC_ok (s : RSt) : COk (callsC s).1 := ⟨rdInt_okC _, rdInt_okC _, rdInt_okC _, rdInt_okC _, rdInt_okC _, rdInt_okC _, rdInt_okC _⟩
theorem readC_ok (s : List UInt8) : COk (readC s).1 := by
  unfold readC
  split
  · exact callsC_ok _
  · exact ⟨i64_0, i64_0, i64_0, i64_0, i64_0, i64_0, i64_0⟩
theorem readC_back {s : List UInt8} {c : CV} (h : readC s = (c, true)) : bytesC c = s ∧ COk c := by
  refine ⟨?_, by have h2 := readC_ok s; rw [h] at h2; exact h2⟩
  unfold readC at h
  split at h
  · next h1 =>
    simp only [Prod.mk.injEq, and_true] at h
    subst h
    generalize he : callsC (some s) = q at *
    obtain ⟨g, st⟩ := q
    simp only [doneOf, beq_iff_eq] at h1
    subst h1
    unfold callsC at he
    simp only [Prod.mk.injEq] at he
    obtain ⟨hg, hst⟩ := he
    obtain ⟨s7, e7, f7⟩ := opInt_some (Prod.ext rfl hst)
    obtain ⟨s6, e6, f6⟩ := opInt_some (Prod.ext rfl e7)
    obtain ⟨s5, e5, f5⟩ := opText_some (Prod.ext rfl e6)
    obtain ⟨s4, e4, f4⟩ := opInt_some (Prod.ext rfl e5)
    obtain ⟨s3, e3, f3⟩ := opInt_some (Prod.ext rfl e4)
    obtain ⟨s2, e2, f2⟩ := opInt_some (Prod.ext rfl e3)
    obtain ⟨s1, e1, f1⟩ := opInt_some (Prod.ext rfl e2)
    obtain ⟨s0, e0, f0⟩ := opInt_some (Prod.ext rfl e1)
    cases e0
    rw [f0, f1, f2, f3, f4, f5, f6, f7, ← hg]
    simp [bytesC, coreC, textC]
  · cases h
theorem coreC_len {c : CV} (h : COk c) (hp : c.prev.size ≤ 1000) : (coreC c).length ≤ 2047 := by
  obtain ⟨h_office, h_hour, h_inn, h_out, h_store, h_e, h_s⟩ := h
  have l_office := intL_len h_office
  have l_hour := intL_len h_hour
  have l_inn := intL_len h_inn
  have l_out := intL_len h_out
  have l_store := intL_len h_store
  have l2 := textL_len c.prev.data.toList
  have l3 : c.prev.data.toList.length = c.prev.size := by simp
  simp [coreC, textC]
  omega
def coreP (c : PV) : List UInt8 := intL c.office ++ (intL c.since ++ (intL c.till ++ (intL c.litres)))
def bytesP (c : PV) : List UInt8 := coreP c ++ (intL c.e ++ intL c.s)
def callsP (s : RSt) : PV × RSt :=
  let x0 := opInt s
  let x1 := opInt x0.2
  let x2 := opInt x1.2
  let x3 := opInt x2.2
  let x4 := opInt x3.2
  let x5 := opInt x4.2
  (⟨x0.1, x1.1, x2.1, x3.1, x4.1, x5.1⟩, x5.2)
def readP (s : List UInt8) : PV × Bool := if doneOf (callsP (some s)).2 = true then ((callsP (some s)).1, true) else (zeroP, false)
theorem callsP_enc {c : PV} (h : POk c) (r : List UInt8) : callsP (some (bytesP c ++ r)) = (c, some r) := by
  obtain ⟨h_office, h_since, h_till, h_litres, h_e, h_s⟩ := h
  have e1 : bytesP c ++ r = intL c.office ++ (intL c.since ++ (intL c.till ++ (intL c.litres ++ (intL c.e ++ (intL c.s ++ (r)))))) := by simp [bytesP, coreP]
  unfold callsP
  rw [e1]
  rw [opInt_enc h_office]
  simp only
  rw [opInt_enc h_since]
  simp only
  rw [opInt_enc h_till]
  simp only
  rw [opInt_enc h_litres]
  simp only
  rw [opInt_enc h_e]
  simp only
  rw [opInt_enc h_s]
theorem readP_enc {c : PV} (h : POk c) : readP (bytesP c) = (c, true) := by
  unfold readP
  have e := callsP_enc h []
  rw [List.append_nil] at e
  rw [e]
  exact if_pos rfl
theorem readP_more {c : PV} (h : POk c) (x : UInt8) (r : List UInt8) : readP (bytesP c ++ (x :: r)) = (zeroP, false) := by
  unfold readP
  rw [callsP_enc h, if_neg (fun e => by simp [doneOf] at e)]
theorem bytesP_inj {c d : PV} (hc : POk c) (hd : POk d) : bytesP c = bytesP d ↔ c = d := by
  constructor
  · intro h
    have h1 := readP_enc hc
    rw [h, readP_enc hd] at h1
    exact (Prod.mk.inj h1).1.symm
  · intro h
    rw [h]
theorem readP_not {s : List UInt8} (h : (readP s).2 = false) : readP s = (zeroP, false) := by
  unfold readP at h ⊢
  split
  · next hc => rw [if_pos hc] at h; cases h
  · rfl
theorem rdInt_okP (s : RSt) : I64 (opInt s).1 := by
  cases s with
  | none => exact i64_0
  | some r => exact (ok_int r).2
theorem callsP_ok (s : RSt) : POk (callsP s).1 := ⟨rdInt_okP _, rdInt_okP _, rdInt_okP _, rdInt_okP _, rdInt_okP _, rdInt_okP _⟩
theorem readP_ok (s : List UInt8) : POk (readP s).1 := by
  unfold readP
  split
  · exact callsP_ok _
  · exact ⟨i64_0, i64_0, i64_0, i64_0, i64_0, i64_0⟩
theorem readP_back {s : List UInt8} {c : PV} (h : readP s = (c, true)) : bytesP c = s ∧ POk c := by
  refine ⟨?_, by have h2 := readP_ok s; rw [h] at h2; exact h2⟩
  unfold readP at h
  split at h
  · next h1 =>
    simp only [Prod.mk.injEq, and_true] at h
    subst h
    generalize he : callsP (some s) = q at *
    obtain ⟨g, st⟩ := q
    simp only [doneOf, beq_iff_eq] at h1
    subst h1
    unfold callsP at he
    simp only [Prod.mk.injEq] at he
    obtain ⟨hg, hst⟩ := he
    obtain ⟨s5, e5, f5⟩ := opInt_some (Prod.ext rfl hst)
    obtain ⟨s4, e4, f4⟩ := opInt_some (Prod.ext rfl e5)
    obtain ⟨s3, e3, f3⟩ := opInt_some (Prod.ext rfl e4)
    obtain ⟨s2, e2, f2⟩ := opInt_some (Prod.ext rfl e3)
    obtain ⟨s1, e1, f1⟩ := opInt_some (Prod.ext rfl e2)
    obtain ⟨s0, e0, f0⟩ := opInt_some (Prod.ext rfl e1)
    cases e0
    rw [f0, f1, f2, f3, f4, f5, ← hg]
    simp [bytesP, coreP]
  · cases h
theorem coreP_len {c : PV} (h : POk c) : (coreP c).length ≤ 36 := by
  obtain ⟨h_office, h_since, h_till, h_litres, h_e, h_s⟩ := h
  have l_office := intL_len h_office
  have l_since := intL_len h_since
  have l_till := intL_len h_till
  have l_litres := intL_len h_litres
  simp [coreP]
  omega
end Go.Proofs.YtgjklfddoechpaaGreatDoor
