/- Texts merged: XHLaw XHBackLaw XHCutLaw -/
import Derived.Test.YtmlfkhpmgjcliaaDoorHDec
/- Plain laws on escaped bodies (out of the Frame seat's texts). -/
namespace Go.Proofs.YtmlfkhpmgjcliaaDoor
open Go.RowKit
theorem escB_no (c : UInt8) : ¬ (126 : UInt8) ∈ escB c := by
  unfold escB
  split
  · decide
  · split
    · decide
    · rename_i h _
      simp only [List.mem_singleton]
      exact fun e => h e.symm
theorem escL_no : ∀ (l : List UInt8), ¬ (126 : UInt8) ∈ escL l
  | [] => by simp [escL]
  | c :: l => by
    simp only [escL, List.mem_append, not_or]
    exact ⟨escB_no c, escL_no l⟩
theorem unesc_esc_all : ∀ (l : List UInt8), unescL (escL l) = some l
  | [] => rfl
  | c :: l => by
    have ih := unesc_esc_all l
    unfold escL escB
    by_cases h1 : c = 126
    · subst h1
      simp only [if_true]
      show unescL (125 :: 94 :: escL l) = _
      rw [unesc_flag, ih]; rfl
    · by_cases h2 : c = 125
      · subst h2
        simp only [if_true]
        show unescL (125 :: 93 :: escL l) = _
        rw [unesc_esc, ih]; rfl
      · rw [if_neg h1, if_neg h2]
        show unescL (c :: escL l) = _
        rw [unesc_plain h2, ih]; rfl
theorem encL_len (l : List UInt8) : (encL l).length ≤ 2050 := by
  unfold encL
  split
  · simp
  · simp only [List.length_cons, List.length_append, List.length_nil]
    omega
theorem bodyOk_body (p : List UInt8) : bodyOk (bodyL p) = true := by
  have hl := crcL_lt p
  have hlen : (bodyL p).length = p.length + 2 := by simp [bodyL, crcB]
  rw [bodyOk_at hlen, decide_eq_true_iff]
  have e1 : (bodyL p).take p.length = p := by simp [bodyL]
  have e2 : (bodyL p)[p.length]? = some (UInt8.ofNat (crcL p % 256)) := by simp [bodyL, crcB]
  have e3 : (bodyL p)[p.length + 1]? = some (UInt8.ofNat (crcL p / 256)) := by simp [bodyL, crcB]
  rw [e1, e2, e3, Option.getD_some, Option.getD_some, UInt8.toNat_ofNat', UInt8.toNat_ofNat']
  omega
end Go.Proofs.YtmlfkhpmgjcliaaDoor
/- What decL and restL say of a stream that is a string without flags and a row of frames behind it; slices of strings that came in; bournelaw23.short. -/
namespace Go.Proofs.YtmlfkhpmgjcliaaDoor
open Go.RowKit
theorem strL_skip : ∀ (b r : List UInt8), ¬ (126 : UInt8) ∈ b → strL (b ++ r) = strL r
  | [], _, _ => rfl
  | c :: b, r, h => by
    simp only [List.mem_cons, not_or] at h
    have hc : ¬ c = 126 := fun e => h.1 e.symm
    have ih := strL_skip b r h.2
    simp [strL, hc, ih]
theorem segs_to : ∀ (e cur r : List UInt8), ¬ (126 : UInt8) ∈ e → segs cur (e ++ 126 :: r) = (cur ++ e) :: segs [] r
  | [], cur, r, _ => by simp [segs]
  | c :: e, cur, r, h => by
    simp only [List.mem_cons, not_or] at h
    have hc : ¬ c = 126 := fun e => h.1 e.symm
    have ih := segs_to e (cur ++ [c]) r h.2
    simp [segs, hc, ih]
theorem escL_ge : ∀ l : List UInt8, l.length ≤ (escL l).length
  | [] => by simp
  | x :: l => by
    have := (escB_len x).1
    have ih := escL_ge l
    simp only [escL, List.length_append, List.length_cons]
    omega
theorem encL_cases (q : List UInt8) : (encL q = [] ∧ 1000 < q.length) ∨ (∃ e, encL q = 126 :: (e ++ [126]) ∧ ¬ (126 : UInt8) ∈ e ∧ payOpt e = some q ∧ encL q ≠ [] ∧ q.length ≤ 2046) := by
  have hl : (bodyL q).length = q.length + 2 := by simp [bodyL, crcB]
  have h2 := escL_len (bodyL q)
  unfold encL
  split
  · rename_i h
    exact .inl ⟨rfl, by omega⟩
  · rename_i h
    refine .inr ⟨escL (bodyL q), rfl, escL_no _, ?_, by simp, ?_⟩
    · rw [payOpt_some h (unesc_esc_all _), bodyOk_body, if_pos rfl, hl]
      simp [bodyL]
    · have h3 := escL_ge (bodyL q)
      omega
theorem pay_nil : payOpt [] = none := by
  rw [payOpt_some (l := []) (b := []) (by simp) rfl]
  rfl
/-- the frames one behind the other -/
def frL (qs : List (List UInt8)) : List UInt8 := (qs.map encL).flatten
def keptL (qs : List (List UInt8)) : List (List UInt8) := qs.filter fun q => !(encL q == [])
theorem segs_fr : ∀ qs : List (List UInt8), (segs [] (frL qs)).filterMap payOpt = keptL qs
  | [] => rfl
  | q :: qs => by
    have ih := segs_fr qs
    rcases encL_cases q with ⟨h, _⟩ | ⟨e, h, hno, hp, hne, _⟩
    · have h1 : frL (q :: qs) = frL qs := by simp [frL, h]
      have h2 : keptL (q :: qs) = keptL qs := by simp [keptL, h]
      rw [h1, h2, ih]
    · have h1 : frL (q :: qs) = 126 :: (e ++ 126 :: frL qs) := by simp [frL, h]
      have h2 : keptL (q :: qs) = q :: keptL qs := by simp [keptL, hne]
      rw [h1, h2, ← ih]
      have h3 : segs [] (126 :: (e ++ 126 :: frL qs)) = [] :: e :: segs [] (frL qs) := by
        have := segs_to e [] (frL qs) hno
        simp [segs, this]
      rw [h3]
      simp [pay_nil, hp]
theorem str_fr : ∀ qs : List (List UInt8), (strL (frL qs)).filterMap payOpt = keptL qs
  | [] => rfl
  | q :: qs => by
    have ih := str_fr qs
    rcases encL_cases q with ⟨h, _⟩ | ⟨e, h, hno, hp, hne, _⟩
    · have h1 : frL (q :: qs) = frL qs := by simp [frL, h]
      have h2 : keptL (q :: qs) = keptL qs := by simp [keptL, h]
      rw [h1, h2, ih]
    · have h1 : frL (q :: qs) = 126 :: (e ++ 126 :: frL qs) := by simp [frL, h]
      have h2 : keptL (q :: qs) = q :: keptL qs := by simp [keptL, hne]
      rw [h1, h2]
      have h3 : strL (126 :: (e ++ 126 :: frL qs)) = e :: segs [] (frL qs) := by
        have := segs_to e [] (frL qs) hno
        simp [strL, this]
      rw [h3]
      simp [hp, segs_fr]
theorem fr_end : ∀ qs : List (List UInt8), (frL qs = [] ∧ keptL qs = []) ∨ (keptL qs ≠ [] ∧ ∃ F, frL qs = F ++ [126])
  | [] => .inl ⟨rfl, rfl⟩
  | q :: qs => by
    have ih := fr_end qs
    rcases encL_cases q with ⟨h, _⟩ | ⟨e, h, hno, hp, hne, _⟩
    · have h1 : frL (q :: qs) = frL qs := by simp [frL, h]
      have h2 : keptL (q :: qs) = keptL qs := by simp [keptL, h]
      rw [h1, h2]
      exact ih
    · have h1 : frL (q :: qs) = (126 :: (e ++ [126])) ++ frL qs := by simp [frL, h]
      have h2 : keptL (q :: qs) = q :: keptL qs := by simp [keptL, hne]
      rw [h1, h2]
      refine .inr ⟨by simp, ?_⟩
      rcases ih with ⟨h3, _⟩ | ⟨_, F, h3⟩
      · exact ⟨126 :: e, by rw [h3]; simp⟩
      · exact ⟨(126 :: (e ++ [126])) ++ F, by rw [h3]; simp⟩
theorem back_dec (B : List UInt8) (hB : ¬ (126 : UInt8) ∈ B) (qs : List (List UInt8)) : decL (B ++ frL qs) = keptL qs := by
  unfold decL
  rw [strL_skip _ _ hB]
  exact str_fr qs
theorem back_rest (B : List UInt8) (hB : ¬ (126 : UInt8) ∈ B) (qs : List (List UInt8)) : restL (B ++ frL qs) = if keptL qs = [] then [] else [126] := by
  unfold restL
  rcases fr_end qs with ⟨h1, h2⟩ | ⟨h1, F, h2⟩
  · rw [h1, h2, List.append_nil, tailF_none _ hB]
    rfl
  · rw [h2, if_neg h1, ← List.append_assoc, tailF_some (B ++ F) [] (by simp)]
    rfl
theorem keptL_snoc (qs : List (List UInt8)) (q : List UInt8) : keptL (qs ++ [q]) = keptL qs ++ (if encL q = [] then [] else [q]) := by
  unfold keptL
  rw [List.filter_append]
  by_cases h : encL q = [] <;> simp [h]
theorem frL_snoc (qs : List (List UInt8)) (q : List UInt8) : frL (qs ++ [q]) = frL qs ++ encL q := by
  simp [frL]
theorem frL_len : ∀ qs : List (List UInt8), (frL qs).length ≤ 2050 * qs.length
  | [] => by simp [frL]
  | q :: qs => by
    have ih := frL_len qs
    have h := encL_len q
    have h1 : frL (q :: qs) = encL q ++ frL qs := by simp [frL]
    rw [h1, List.length_append, List.length_cons]
    omega
end Go.Proofs.YtmlfkhpmgjcliaaDoor
/- A stream cut in two: what decL and restL say of the whole and of the parts. -/
namespace Go.Proofs.YtmlfkhpmgjcliaaDoor
theorem first_flag : ∀ (l : List UInt8), ¬ (126 : UInt8) ∈ l ∨ ∃ c d, l = c ++ 126 :: d ∧ ¬ (126 : UInt8) ∈ c
  | [] => .inl (by simp)
  | x :: l => by
    by_cases hx : x = 126
    · exact .inr ⟨[], l, by rw [hx]; rfl, by simp⟩
    · rcases first_flag l with h | ⟨c, d, h1, h2⟩
      · exact .inl (by simp only [List.mem_cons, not_or]; exact ⟨fun e => hx e.symm, h⟩)
      · exact .inr ⟨x :: c, d, by rw [h1]; rfl, by simp only [List.mem_cons, not_or]; exact ⟨fun e => hx e.symm, h2⟩⟩
theorem last_flag : ∀ (l : List UInt8), ¬ (126 : UInt8) ∈ l ∨ ∃ a b, l = a ++ 126 :: b ∧ ¬ (126 : UInt8) ∈ b
  | [] => .inl (by simp)
  | x :: l => by
    rcases last_flag l with h | ⟨a, b, h1, h2⟩
    · by_cases hx : x = 126
      · exact .inr ⟨[], l, by rw [hx]; rfl, h⟩
      · exact .inl (by simp only [List.mem_cons, not_or]; exact ⟨fun e => hx e.symm, h⟩)
    · exact .inr ⟨x :: a, b, by rw [h1]; rfl, h2⟩
theorem segs_cut : ∀ (a cur r : List UInt8), segs cur (a ++ 126 :: r) = segs cur (a ++ [126]) ++ segs [] r
  | [], cur, r => by simp [segs]
  | c :: a, cur, r => by
    by_cases hc : c = 126
    · have ih := segs_cut a [] r
      simp [segs, hc, ih]
    · have ih := segs_cut a (cur ++ [c]) r
      simp [segs, hc, ih]
theorem str_cut : ∀ (a r : List UInt8), strL (a ++ 126 :: r) = strL (a ++ [126]) ++ segs [] r
  | [], r => by simp [strL, segs]
  | c :: a, r => by
    by_cases hc : c = 126
    · have h := segs_cut a [] r
      simp [strL, hc, h]
    · have ih := str_cut a r
      simp [strL, hc, ih]
theorem segs_nil : ∀ (l cur : List UInt8), ¬ (126 : UInt8) ∈ l → segs cur l = []
  | [], _, _ => rfl
  | c :: l, cur, h => by
    simp only [List.mem_cons, not_or] at h
    have hc : ¬ c = 126 := fun e => h.1 e.symm
    have ih := segs_nil l (cur ++ [c]) h.2
    simp [segs, hc, ih]
theorem tailF_ne : ∀ (l : List UInt8), (126 : UInt8) ∈ l → tailF l ≠ []
  | [], h => by simp at h
  | c :: l, h => by
    simp only [tailF]
    split
    · rename_i h0
      split
      · simp
      · rename_i hc
        rcases List.mem_cons.1 h with h | h
        · exact absurd h.symm hc
        · exact absurd h0 (tailF_ne l h)
    · assumption
theorem tailF_right : ∀ (a r : List UInt8), (126 : UInt8) ∈ r → tailF (a ++ r) = tailF r
  | [], _, _ => rfl
  | c :: a, r, h => by
    have ih := tailF_right a r h
    have hn := tailF_ne r h
    simp [tailF, ih, hn]
theorem tailF_skip : ∀ (a r : List UInt8), ¬ (126 : UInt8) ∈ a → tailF (a ++ r) = tailF r
  | [], _, _ => rfl
  | c :: a, r, h => by
    simp only [List.mem_cons, not_or] at h
    have hc : ¬ c = 126 := fun e => h.1 e.symm
    have ih := tailF_skip a r h.2
    simp only [List.cons_append, tailF, ih]
    by_cases h0 : tailF r = [] <;> simp [h0, hc]
theorem stream_cut (s t : List UInt8) : decL (s ++ t) = decL s ++ decL (restL s ++ t) ∧ restL (s ++ t) = restL (restL s ++ t) := by
  rcases last_flag s with hs | ⟨a, b, rfl, hb⟩
  · have h1 : strL s = [] := by
      have := strL_skip s [] hs
      rw [List.append_nil] at this
      exact this
    have h2 : restL s = [] := by
      unfold restL
      rw [tailF_none _ hs]
      rfl
    constructor
    · unfold decL
      rw [h2, h1, strL_skip _ _ hs]
      rfl
    · rw [h2]
      unfold restL
      rw [tailF_skip _ _ hs]
      rfl
  · have hd : ∀ u, decL (a ++ 126 :: b ++ u) = decL (a ++ 126 :: b) ++ (segs [] (b ++ u)).filterMap payOpt := by
      intro u
      unfold decL
      rw [List.append_assoc, List.cons_append, str_cut a (b ++ u), str_cut a b, segs_nil b [] hb, List.append_nil, List.filterMap_append]
    have ht := tailF_some a b hb
    by_cases hl : 2048 < b.length
    · have h2 : restL (a ++ 126 :: b) = [] := by
        unfold restL
        rw [ht, if_pos (by rw [List.length_cons]; omega)]
      rw [hd, h2, List.nil_append]
      rcases first_flag t with h3 | ⟨c, d, rfl, hc⟩
      · constructor
        · rw [segs_nil (b ++ t) [] (by simp only [List.mem_append, not_or]; exact ⟨hb, h3⟩)]
          have := strL_skip t [] h3
          rw [List.append_nil] at this
          unfold decL
          rw [this]
          rfl
        · unfold restL
          rw [List.append_assoc, List.cons_append, tailF_some a (b ++ t) (by simp only [List.mem_append, not_or]; exact ⟨hb, h3⟩), tailF_none _ h3, if_pos (by rw [List.length_cons, List.length_append]; omega)]
          rfl
      · constructor
        · rw [← List.append_assoc, segs_to (b ++ c) [] d (by simp only [List.mem_append, not_or]; exact ⟨hb, hc⟩)]
          unfold decL
          rw [strL_skip _ _ hc, List.nil_append, List.filterMap_cons, payOpt_long (by rw [List.length_append]; omega)]
          simp [strL]
        · unfold restL
          rw [tailF_right _ (c ++ 126 :: d) (by simp)]
    · have h2 : restL (a ++ 126 :: b) = 126 :: b := by
        unfold restL
        rw [ht, if_neg (by rw [List.length_cons]; omega)]
      rw [hd, h2]
      constructor
      · unfold decL
        simp [strL]
      · unfold restL
        rw [List.append_assoc, tailF_right a (126 :: b ++ t) (by simp)]
theorem rest_len (L : List UInt8) : (restL L).length ≤ 2049 := by
  unfold restL
  split
  · simp
  · omega
end Go.Proofs.YtmlfkhpmgjcliaaDoor
