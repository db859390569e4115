/- A stream cut in two: what decL and restL say of the whole and of the parts. -/
import Derived.Test.YtonhaoieeefglaaFBackLaw
namespace Go.Proofs.Ytonhaoieeefglaa
theorem first_flag : ∀ (l : List UInt8), ¬ (126 : UInt8) ∈ l ∨ ∃ c d, l = c ++ 126 :: d ∧ ¬ (126 : UInt8) ∈ c
  | [] => .inl (by simp)
  | x :: l => by
    by_cases hx : x = 126
    · exact .inr ⟨[], l, by rw [hx]; rfl, by simp⟩
    · rcases first_flag l with h | ⟨c, d, h1, h2⟩
      · exact .inl (by simp only [List.mem_cons, not_or]; exact ⟨fun e => hx e.symm, h⟩)
      · exact .inr ⟨x :: c, d, by rw [h1]; rfl, by simp only [List.mem_cons, not_or]; exact ⟨fun e => hx e.symm, h2⟩⟩
theorem last_flag : ∀ (l : List UInt8), ¬ (126 : UInt8) ∈ l ∨ ∃ a b, l = a ++ 126 :: b ∧ ¬ (126 : UInt8) ∈ b
  | [] => .inl (by simp)
  | x :: l => by
    rcases last_flag l with h | ⟨a, b, h1, h2⟩
    · by_cases hx : x = 126
      · exact .inr ⟨[], l, by rw [hx]; rfl, h⟩
      · exact .inl (by simp only [List.mem_cons, not_or]; exact ⟨fun e => hx e.symm, h⟩)
    · exact .inr ⟨x :: a, b, by rw [h1]; rfl, h2⟩
theorem segs_cut : ∀ (a cur r : List UInt8), segs cur (a ++ 126 :: r) = segs cur (a ++ [126]) ++ segs [] r
  | [], cur, r => by simp [segs]
  | c :: a, cur, r => by
    by_cases hc : c = 126
    · have ih := segs_cut a [] r
      simp [segs, hc, ih]
    · have ih := segs_cut a (cur ++ [c]) r
      simp [segs, hc, ih]
theorem str_cut : ∀ (a r : List UInt8), strL (a ++ 126 :: r) = strL (a ++ [126]) ++ segs [] r
  | [], r => by simp [strL, segs]
  | c :: a, r => by
    by_cases hc : c = 126
    · have h := segs_cut a [] r
      simp [strL, hc, h]
    · have ih := str_cut a r
      simp [strL, hc, ih]
theorem segs_nil : ∀ (l cur : List UInt8), ¬ (126 : UInt8) ∈ l → segs cur l = []
  | [], _, _ => rfl
  | c :: l, cur, h => by
    simp only [List.mem_cons, not_or] at h
    have hc : ¬ c = 126 := fun e => h.1 e.symm
    have ih := segs_nil l (cur ++ [c]) h.2
    simp [segs, hc, ih]
theorem tailF_ne : ∀ (l : List UInt8), (126 : UInt8) ∈ l → tailF l ≠ []
  | [], h => by simp at h
  | c :: l, h => by
    simp only [tailF]
    split
    · rename_i h0
      split
      · simp
      · rename_i hc
        rcases List.mem_cons.1 h with h | h
        · exact absurd h.symm hc
        · exact absurd h0 (tailF_ne l h)
    · assumption
theorem tailF_right : ∀ (a r : List UInt8), (126 : UInt8) ∈ r → tailF (a ++ r) = tailF r
  | [], _, _ => rfl
  | c :: a, r, h => by
    have ih := tailF_right a r h
    have hn := tailF_ne r h
    simp [tailF, ih, hn]
theorem tailF_skip : ∀ (a r : List UInt8), ¬ (126 : UInt8) ∈ a → tailF (a ++ r) = tailF r
  | [], _, _ => rfl
  | c :: a, r, h => by
    simp only [List.mem_cons, not_or] at h
    have hc : ¬ c = 126 := fun e => h.1 e.symm
    have ih := tailF_skip a r h.2
    simp only [List.cons_append, tailF, ih]
    by_cases h0 : tailF r = [] <;> simp [h0, hc]
theorem stream_cut (s t : List UInt8) : decL (s ++ t) = decL s ++ decL (restL s ++ t) ∧ restL (s ++ t) = restL (restL s ++ t) := by
  rcases last_flag s with hs | ⟨a, b, rfl, hb⟩
  · have h1 : strL s = [] := by
      have := strL_skip s [] hs
      rw [List.append_nil] at this
      exact this
    have h2 : restL s = [] := by
      unfold restL
      rw [tailF_none _ hs]
      rfl
    constructor
    · unfold decL
      rw [h2, h1, strL_skip _ _ hs]
      rfl
    · rw [h2]
      unfold restL
      rw [tailF_skip _ _ hs]
      rfl
  · have hd : ∀ u, decL (a ++ 126 :: b ++ u) = decL (a ++ 126 :: b) ++ (segs [] (b ++ u)).filterMap payOpt := by
      intro u
      unfold decL
      rw [List.append_assoc, List.cons_append, str_cut a (b ++ u), str_cut a b, segs_nil b [] hb, List.append_nil, List.filterMap_append]
    have ht := tailF_some a b hb
    by_cases hl : 2048 < b.length
    · have h2 : restL (a ++ 126 :: b) = [] := by
        unfold restL
        rw [ht, if_pos (by rw [List.length_cons]; omega)]
      rw [hd, h2, List.nil_append]
      rcases first_flag t with h3 | ⟨c, d, rfl, hc⟩
      · constructor
        · rw [segs_nil (b ++ t) [] (by simp only [List.mem_append, not_or]; exact ⟨hb, h3⟩)]
          have := strL_skip t [] h3
          rw [List.append_nil] at this
          unfold decL
          rw [this]
          rfl
        · unfold restL
          rw [List.append_assoc, List.cons_append, tailF_some a (b ++ t) (by simp only [List.mem_append, not_or]; exact ⟨hb, h3⟩), tailF_none _ h3, if_pos (by rw [List.length_cons, List.length_append]; omega)]
          rfl
      · constructor
        · rw [← List.append_assoc, segs_to (b ++ c) [] d (by simp only [List.mem_append, not_or]; exact ⟨hb, hc⟩)]
          unfold decL
          rw [strL_skip _ _ hc, List.nil_append, List.filterMap_cons, payOpt_long (by rw [List.length_append]; omega)]
          simp [strL]
        · unfold restL
          rw [tailF_right _ (c ++ 126 :: d) (by simp)]
    · have h2 : restL (a ++ 126 :: b) = 126 :: b := by
        unfold restL
        rw [ht, if_neg (by rw [List.length_cons]; omega)]
      rw [hd, h2]
      constructor
      · unfold decL
        simp [strL]
      · unfold restL
        rw [List.append_assoc, tailF_right a (126 :: b ++ t) (by simp)]
theorem rest_len (L : List UInt8) : (restL L).length ≤ 2049 := by
  unfold restL
  split
  · simp
  · omega
end Go.Proofs.Ytonhaoieeefglaa
