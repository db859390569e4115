/- The stretches of a stream, as plain functions on lists of bytes. -/
import Derived.Test.YtonhaoieeefglaaFPlain
import Derived.Lib.Bytealg
namespace Go.Proofs.Ytonhaoieeefglaa
/-- what stands between the flags from here on; cur has come since the last one -/
def segs : List UInt8 → List UInt8 → List (List UInt8)
  | _, [] => []
  | cur, c :: l => if c = 126 then cur :: segs [] l else segs (cur ++ [c]) l
/-- the stretches of a stream -/
def strL : List UInt8 → List (List UInt8)
  | [] => []
  | c :: l => if c = 126 then segs [] l else strL l
theorem idx_none : ∀ (l : List UInt8), Lib.indexByte l 126 = -1 → (∀ cur, segs cur l = []) ∧ strL l = [] ∧ ¬ (126 : UInt8) ∈ l
  | [], _ => ⟨fun _ => rfl, rfl, by simp⟩
  | b :: l, h => by
    have hg := Lib.indexByte_ge l 126
    unfold Lib.indexByte at h
    by_cases hb : b = 126
    · subst hb; simp at h
    · have hb' : (b == 126) = false := by simpa using hb
      rw [hb'] at h
      simp only [Bool.false_eq_true, if_false] at h
      by_cases hl : Lib.indexByte l 126 = -1
      · obtain ⟨h1, h2, h3⟩ := idx_none l hl
        refine ⟨fun cur => ?_, ?_, ?_⟩
        · simp [segs, hb, h1]
        · simp [strL, hb, h2]
        · simp only [List.mem_cons, not_or]
          exact ⟨fun e => hb e.symm, h3⟩
      · have : (Lib.indexByte l 126 == -1) = false := by simpa using hl
        rw [this] at h
        simp only [Bool.false_eq_true, if_false] at h
        omega
theorem idx_some : ∀ (l : List UInt8), Lib.indexByte l 126 ≠ -1 → ∃ n : Nat, Lib.indexByte l 126 = (n : Int) ∧ n < l.length ∧ (∀ cur, segs cur l = (cur ++ l.take n) :: segs [] (l.drop (n + 1))) ∧ strL l = segs [] (l.drop (n + 1)) ∧ l = l.take n ++ 126 :: l.drop (n + 1) ∧ ¬ (126 : UInt8) ∈ l.take n
  | [], h => by simp [Lib.indexByte] at h
  | b :: l, h => by
    have hg := Lib.indexByte_ge l 126
    unfold Lib.indexByte at h ⊢
    by_cases hb : b = 126
    · subst hb
      exact ⟨0, by simp, by simp, fun cur => by simp [segs], by simp [strL], by simp, by simp⟩
    · have hb' : (b == 126) = false := by simpa using hb
      rw [hb'] at h ⊢
      simp only [Bool.false_eq_true, if_false] at h ⊢
      by_cases hl : Lib.indexByte l 126 = -1
      · rw [hl] at h; simp at h
      · have : (Lib.indexByte l 126 == -1) = false := by simpa using hl
        rw [this]
        simp only [Bool.false_eq_true, if_false]
        obtain ⟨n, h1, h2, h3, h4, h5, h6⟩ := idx_some l hl
        refine ⟨n + 1, by rw [h1]; simp, by simp; omega, fun cur => ?_, ?_, ?_, ?_⟩
        · simp [segs, hb, h3]
        · simp [strL, hb, h4]
        · simp only [List.take_succ_cons, List.drop_succ_cons, List.cons_append]
          rw [← h5]
        · simp only [List.take_succ_cons, List.mem_cons, not_or]
          exact ⟨fun e => hb e.symm, h6⟩
end Go.Proofs.Ytonhaoieeefglaa
