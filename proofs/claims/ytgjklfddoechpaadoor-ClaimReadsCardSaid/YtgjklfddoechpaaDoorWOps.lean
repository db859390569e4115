/- Package wire: what a reader's calls have read, and known answers. No program in this text. -/
import Derived.Test.YtgjklfddoechpaaDoorWOrd
namespace Go.Proofs.YtgjklfddoechpaaDoor
/-- E has been read of cur, st is left; or the call has failed, and cur is not E -/
def OpOk (cur E : List UInt8) (st : RSt) : Prop := (∃ r, st = some r ∧ cur = E ++ r) ∨ (st = none ∧ cur ≠ E ∧ E.length ≤ 2)
theorem lebL_0 : lebL 0 = [] := leb_zero
theorem lebL_1 : lebL 1 = [1] := by rw [leb_pos (by decide), show 1 / 256 = 0 from rfl, leb_zero]; rfl
theorem lebL_256 : lebL 256 = [0, 1] := by rw [leb_pos (by decide), show 256 / 256 = 1 from rfl, lebL_1]; rfl
theorem intL_0 : intL 0 = [128] := by
  unfold intL
  rw [if_pos (by decide), show (0 : Int).toNat = 0 from rfl, leb_zero]
  rfl
theorem numL_0 : numL 0 = [128] := by rw [numL, if_neg (by decide), intL_0]
theorem numL_256 : numL 256 = [130, 1, 0] := by
  rw [numL, if_neg (by decide)]
  unfold intL
  rw [if_pos (by decide), show (256 : Int).toNat = 256 from rfl, lebL_256]
  rfl
theorem intL_m2 : intL (-2) = [126, 254] := by
  unfold intL
  rw [if_neg (by decide), show (-(-2 + 1) : Int).toNat = 1 from rfl, lebL_1]
  rfl
theorem numL_m1 : numL (-1) = [] := by rw [numL, if_pos (by decide)]
theorem i64_0 : I64 0 := by unfold I64; omega
theorem opInt_none : opInt none = (0, none) := rfl
theorem ok_int (cur : List UInt8) : OpOk cur (intL (opInt (some cur)).1) (opInt (some cur)).2 ∧ I64 (opInt (some cur)).1 := by
  unfold opInt
  cases h : rdInt cur with
  | none =>
    simp only [h]
    refine ⟨Or.inr ⟨rfl, fun e => ?_, by rw [intL_0]; decide⟩, i64_0⟩
    have := rdInt_intL i64_0 []
    rw [List.append_nil, ← e, h] at this
    cases this
  | some p =>
    obtain ⟨n, r⟩ := p
    simp only [h]
    obtain ⟨h1, h2⟩ := intL_rdInt h
    exact ⟨Or.inl ⟨r, rfl, h1⟩, h2⟩
theorem ok_num (cur : List UInt8) : OpOk cur (numL (opNum (some cur)).1) (opNum (some cur)).2 ∧ I64 (opNum (some cur)).1 := by
  unfold opNum
  by_cases hn : (opInt (some cur)).1 < 0
  · rw [if_pos hn]
    refine ⟨Or.inr ⟨rfl, fun e => ?_, by rw [numL_0]; decide⟩, i64_0⟩
    have := rdInt_intL i64_0 []
    rw [numL, if_neg (by decide)] at e
    rw [List.append_nil, ← e] at this
    unfold opInt at hn
    simp only [this] at hn
    omega
  · rw [if_neg hn]
    have := ok_int cur
    unfold numL
    rw [if_neg hn]
    exact this
theorem ok_text (cur : List UInt8) : OpOk cur (textL (opText (some cur)).1) (opText (some cur)).2 := by
  unfold opText
  cases h : rdText cur with
  | none =>
    simp only [h]
    refine Or.inr ⟨rfl, fun e => ?_, by decide⟩
    have := rdText_textL [] []
    rw [List.append_nil, ← e, h] at this
    cases this
  | some p =>
    obtain ⟨n, r⟩ := p
    simp only [h]
    exact Or.inl ⟨r, rfl, textL_rdText h⟩
theorem rdList_all {α : Type} (f : List UInt8 → Option (α × List UInt8)) (P : α → Prop) (hf : ∀ s x r, f s = some (x, r) → P x) (n : Nat) : ∀ (s : List UInt8) (l : List α) (r : List UInt8), rdList f n s = some (l, r) → ∀ x ∈ l, P x := by
  induction n with
  | zero => intro s l r h; simp [rdList] at h
  | succ n ih =>
    intro s l r h
    cases s with
    | nil => simp [rdList] at h
    | cons c s =>
      simp only [rdList] at h
      by_cases h0 : c = 0
      · rw [if_pos h0] at h
        simp only [Option.some.injEq, Prod.mk.injEq] at h
        obtain ⟨rfl, rfl⟩ := h
        simp
      · rw [if_neg h0] at h
        by_cases h1 : c = 1
        · rw [if_pos h1] at h
          cases hq : f s with
          | none => rw [hq] at h; cases h
          | some p =>
            obtain ⟨x, r'⟩ := p
            rw [hq] at h
            simp only at h
            obtain ⟨p, hp, he⟩ := Option.map_eq_some_iff.1 h
            simp only [Prod.mk.injEq] at he
            obtain ⟨rfl, rfl⟩ := he
            intro y hy
            rcases List.mem_cons.1 hy with rfl | hy
            · exact hf _ _ _ hq
            · exact ih _ _ _ hp y hy
        · rw [if_neg h1] at h; cases h
theorem ok_list {α : Type} (f : List UInt8 → Option (α × List UInt8)) (e : α → List UInt8) (hf : ∀ s x r, f s = some (x, r) → s = e x ++ r) (P : α → Prop) (hP : ∀ s x r, f s = some (x, r) → P x) (cur : List UInt8) :
    OpOk cur (joinL e (opList f (some cur)).1) (opList f (some cur)).2 ∧ ∀ x ∈ (opList f (some cur)).1, P x := by
  unfold opList
  cases h : rdList f (cur.length + 1) cur with
  | none =>
    simp only [h]
    refine ⟨Or.inr ⟨rfl, fun e0 => ?_, Nat.le_succ 1⟩, by simp⟩
    have e1 : cur = [0] := e0
    subst e1
    cases h
  | some p =>
    obtain ⟨n, r⟩ := p
    simp only [h]
    exact ⟨Or.inl ⟨r, rfl, joinL_rdList f e hf _ _ _ _ h⟩, rdList_all f P hP _ _ _ _ h⟩
theorem ok_nums (cur : List UInt8) : OpOk cur (numsL (opNums (some cur)).1) (opNums (some cur)).2 ∧ ∀ x ∈ (opNums (some cur)).1, I64 x :=
  ok_list rdInt intL (fun _ _ _ h => (intL_rdInt h).1) I64 (fun _ _ _ h => (intL_rdInt h).2) cur
theorem ok_texts (cur : List UInt8) : OpOk cur (textsL (opTexts (some cur)).1) (opTexts (some cur)).2 :=
  (ok_list rdText textL (fun _ _ _ h => textL_rdText h) (fun _ => True) (fun _ _ _ _ => trivial) cur).1
theorem joinL_len {α : Type} (e : α → List UInt8) (l : List α) : l.length ≤ (joinL e l).length ∧ ∀ x ∈ l, (e x).length ≤ (joinL e l).length := by
  induction l with
  | nil => simp [joinL]
  | cons y l ih =>
    have h1 : (joinL e (y :: l)).length = 1 + (e y).length + (joinL e l).length := by simp [joinL]; omega
    rw [h1]
    refine ⟨by simp; omega, fun x hx => ?_⟩
    rcases List.mem_cons.1 hx with rfl | hx
    · omega
    · have := ih.2 x hx; omega
theorem textL_ge (s : List UInt8) : s.length ≤ (textL s).length := by
  have := escTs_len s
  simp [textL]; omega
theorem OpOk.len {cur E : List UInt8} {st : RSt} (h : OpOk cur E st) : E.length ≤ cur.length + 2 := by
  rcases h with ⟨r, _, h⟩ | ⟨_, _, h⟩
  · rw [h, List.length_append]; omega
  · omega
theorem kat1 : opNum (some [129, 5, 126, 97, 0, 1]) = (5, some [126, 97, 0, 1]) := by decide
theorem kat2 : opInt (some [127]) = (-1, some []) := by decide
theorem kat3 : textL [97] = [97, 0, 1] := by decide
end Go.Proofs.YtgjklfddoechpaaDoor
