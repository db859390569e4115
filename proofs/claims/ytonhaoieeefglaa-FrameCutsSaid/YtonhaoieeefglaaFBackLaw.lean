/- What decL and restL say of a stream that is a string without flags and a row of frames behind it; slices of strings that came in; bournelaw23.short. -/
import Derived.Test.YtonhaoieeefglaaFOnly
import Derived.Test.YtonhaoieeefglaaFInv
namespace Go.Proofs.Ytonhaoieeefglaa
open Go.RowKit
theorem strL_skip : ∀ (b r : List UInt8), ¬ (126 : UInt8) ∈ b → strL (b ++ r) = strL r
  | [], _, _ => rfl
  | c :: b, r, h => by
    simp only [List.mem_cons, not_or] at h
    have hc : ¬ c = 126 := fun e => h.1 e.symm
    have ih := strL_skip b r h.2
    simp [strL, hc, ih]
theorem segs_to : ∀ (e cur r : List UInt8), ¬ (126 : UInt8) ∈ e → segs cur (e ++ 126 :: r) = (cur ++ e) :: segs [] r
  | [], cur, r, _ => by simp [segs]
  | c :: e, cur, r, h => by
    simp only [List.mem_cons, not_or] at h
    have hc : ¬ c = 126 := fun e => h.1 e.symm
    have ih := segs_to e (cur ++ [c]) r h.2
    simp [segs, hc, ih]
theorem escL_ge : ∀ l : List UInt8, l.length ≤ (escL l).length
  | [] => by simp
  | x :: l => by
    have := (escB_len x).1
    have ih := escL_ge l
    simp only [escL, List.length_append, List.length_cons]
    omega
theorem encL_cases (q : List UInt8) : (encL q = [] ∧ 1000 < q.length) ∨ (∃ e, encL q = 126 :: (e ++ [126]) ∧ ¬ (126 : UInt8) ∈ e ∧ payOpt e = some q ∧ encL q ≠ [] ∧ q.length ≤ 2046) := by
  have hl : (bodyL q).length = q.length + 2 := by simp [bodyL, crcB]
  have h2 := escL_len (bodyL q)
  unfold encL
  split
  · rename_i h
    exact .inl ⟨rfl, by omega⟩
  · rename_i h
    refine .inr ⟨escL (bodyL q), rfl, escL_no _, ?_, by simp, ?_⟩
    · rw [payOpt_some h (unesc_esc_all _), bodyOk_body, if_pos rfl, hl]
      simp [bodyL]
    · have h3 := escL_ge (bodyL q)
      omega
theorem pay_nil : payOpt [] = none := by
  rw [payOpt_some (l := []) (b := []) (by simp) rfl]
  rfl
/-- the frames one behind the other -/
def frL (qs : List (List UInt8)) : List UInt8 := (qs.map encL).flatten
def keptL (qs : List (List UInt8)) : List (List UInt8) := qs.filter fun q => !(encL q == [])
theorem segs_fr : ∀ qs : List (List UInt8), (segs [] (frL qs)).filterMap payOpt = keptL qs
  | [] => rfl
  | q :: qs => by
    have ih := segs_fr qs
    rcases encL_cases q with ⟨h, _⟩ | ⟨e, h, hno, hp, hne, _⟩
    · have h1 : frL (q :: qs) = frL qs := by simp [frL, h]
      have h2 : keptL (q :: qs) = keptL qs := by simp [keptL, h]
      rw [h1, h2, ih]
    · have h1 : frL (q :: qs) = 126 :: (e ++ 126 :: frL qs) := by simp [frL, h]
      have h2 : keptL (q :: qs) = q :: keptL qs := by simp [keptL, hne]
      rw [h1, h2, ← ih]
      have h3 : segs [] (126 :: (e ++ 126 :: frL qs)) = [] :: e :: segs [] (frL qs) := by
        have := segs_to e [] (frL qs) hno
        simp [segs, this]
      rw [h3]
      simp [pay_nil, hp]
theorem str_fr : ∀ qs : List (List UInt8), (strL (frL qs)).filterMap payOpt = keptL qs
  | [] => rfl
  | q :: qs => by
    have ih := str_fr qs
    rcases encL_cases q with ⟨h, _⟩ | ⟨e, h, hno, hp, hne, _⟩
    · have h1 : frL (q :: qs) = frL qs := by simp [frL, h]
      have h2 : keptL (q :: qs) = keptL qs := by simp [keptL, h]
      rw [h1, h2, ih]
    · have h1 : frL (q :: qs) = 126 :: (e ++ 126 :: frL qs) := by simp [frL, h]
      have h2 : keptL (q :: qs) = q :: keptL qs := by simp [keptL, hne]
      rw [h1, h2]
      have h3 : strL (126 :: (e ++ 126 :: frL qs)) = e :: segs [] (frL qs) := by
        have := segs_to e [] (frL qs) hno
        simp [strL, this]
      rw [h3]
      simp [hp, segs_fr]
theorem fr_end : ∀ qs : List (List UInt8), (frL qs = [] ∧ keptL qs = []) ∨ (keptL qs ≠ [] ∧ ∃ F, frL qs = F ++ [126])
  | [] => .inl ⟨rfl, rfl⟩
  | q :: qs => by
    have ih := fr_end qs
    rcases encL_cases q with ⟨h, _⟩ | ⟨e, h, hno, hp, hne, _⟩
    · have h1 : frL (q :: qs) = frL qs := by simp [frL, h]
      have h2 : keptL (q :: qs) = keptL qs := by simp [keptL, h]
      rw [h1, h2]
      exact ih
    · have h1 : frL (q :: qs) = (126 :: (e ++ [126])) ++ frL qs := by simp [frL, h]
      have h2 : keptL (q :: qs) = q :: keptL qs := by simp [keptL, hne]
      rw [h1, h2]
      refine .inr ⟨by simp, ?_⟩
      rcases ih with ⟨h3, _⟩ | ⟨_, F, h3⟩
      · exact ⟨126 :: e, by rw [h3]; simp⟩
      · exact ⟨(126 :: (e ++ [126])) ++ F, by rw [h3]; simp⟩
theorem back_dec (B : List UInt8) (hB : ¬ (126 : UInt8) ∈ B) (qs : List (List UInt8)) : decL (B ++ frL qs) = keptL qs := by
  unfold decL
  rw [strL_skip _ _ hB]
  exact str_fr qs
theorem back_rest (B : List UInt8) (hB : ¬ (126 : UInt8) ∈ B) (qs : List (List UInt8)) : restL (B ++ frL qs) = if keptL qs = [] then [] else [126] := by
  unfold restL
  rcases fr_end qs with ⟨h1, h2⟩ | ⟨h1, F, h2⟩
  · rw [h1, h2, List.append_nil, tailF_none _ hB]
    rfl
  · rw [h2, if_neg h1, ← List.append_assoc, tailF_some (B ++ F) [] (by simp)]
    rfl
theorem keptL_snoc (qs : List (List UInt8)) (q : List UInt8) : keptL (qs ++ [q]) = keptL qs ++ (if encL q = [] then [] else [q]) := by
  unfold keptL
  rw [List.filter_append]
  by_cases h : encL q = [] <;> simp [h]
theorem frL_snoc (qs : List (List UInt8)) (q : List UInt8) : frL (qs ++ [q]) = frL qs ++ encL q := by
  simp [frL]
theorem frL_len : ∀ qs : List (List UInt8), (frL qs).length ≤ 2050 * qs.length
  | [] => by simp [frL]
  | q :: qs => by
    have ih := frL_len qs
    have h := encL_len q
    have h1 : frL (q :: qs) = encL q ++ frL qs := by simp [frL]
    rw [h1, List.length_append, List.length_cons]
    omega
end Go.Proofs.Ytonhaoieeefglaa
