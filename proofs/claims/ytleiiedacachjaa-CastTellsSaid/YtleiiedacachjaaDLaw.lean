/- Wardens: orders by town as a sorted list, and what it reads as. -/
import Derived.Maps.Views
import Derived.Lib.SlKeysI
namespace Go.Proofs.Ytleiiedacachjaa
structure OV where
  level : Int
  number : Int
  hour : Int
  done : Bool
deriving DecidableEq
abbrev OM := List (Int × OV)
section
variable {H : Type}
def ovD (o : OV) : DataW H := .agg [.lit (.int .i64 o.level), .lit (.int .i64 o.number), .lit (.int .i64 o.hour), .lit (.bool o.done)]
def omD (m : OM) : DataW H := .map (m.map fun p => (Lit.int .i64 p.1, ovD p.2))
end
def getM : OM → Int → Option OV
  | [], _ => none
  | p :: m, t => if p.1 = t then some p.2 else getM m t
def insM (x : Int × OV) : OM → OM
  | [] => [x]
  | y :: r => if x.1 < y.1 then x :: y :: r else y :: insM x r
def delM (m : OM) (t : Int) : OM := m.filter fun p => !decide (p.1 = t)
def putM (m : OM) (t : Int) (o : OV) : OM := insM (t, o) (delM m t)
def SortedM (m : OM) : Prop := m.Pairwise fun p q => p.1 < q.1
theorem insM_D {H : Type} (t : Int) (o : OV) : ∀ m : OM, DataW.insert (H := H) (.int .i64 t, ovD o) (m.map fun p => (Lit.int .i64 p.1, ovD p.2)) = (insM (t, o) m).map fun p => (Lit.int .i64 p.1, ovD p.2)
  | [] => rfl
  | y :: r => by
    simp only [List.map_cons, DataW.insert, insM, Lit.before, decide_eq_true_eq]
    by_cases h : t < y.1
    · rw [if_pos h, if_pos h]
      rfl
    · rw [if_neg h, if_neg h, insM_D t o r]
      rfl
theorem omD_put {H : Type} (m : OM) (t : Int) (o : OV) : (omD (H := H) m).put (.int .i64 t) (ovD o) = omD (putM m t o) := by
  unfold omD DataW.put putM delM
  simp only [DataW.map.injEq]
  rw [← insM_D, List.filter_map]
  congr 2
  apply List.filter_congr
  intro p _
  simp [Lit.sameKey]
theorem omD_atKey {H : Type} (m : OM) (t : Int) (z : DataW H) : (omD m).atKey (.int .i64 t) z = match getM m t with | some o => ovD o | none => z := by
  unfold omD DataW.atKey
  simp only
  induction m with
  | nil => rfl
  | cons p m ih =>
    simp only [List.map_cons, List.find?_cons, Lit.sameKey, true_and, getM]
    by_cases h : p.1 = t
    · simp [h]
    · simp only [h, decide_false, if_false]
      exact ih
theorem omD_has {H : Type} (m : OM) (t : Int) : Maps.has (omD (H := H) m) (.int .i64 t) = (getM m t).isSome := by
  unfold omD Maps.has
  simp only
  induction m with
  | nil => rfl
  | cons p m ih =>
    simp only [List.map_cons, List.any_cons, Lit.sameKey, true_and, getM]
    by_cases h : p.1 = t
    · simp [h]
    · simp only [h, decide_false, if_false, Bool.false_or]
      exact ih
theorem omD_keys {H : Type} (m : OM) : intKeys (omD (H := H) m) = m.map (·.1) := by
  unfold omD intKeys
  simp [Go.intOf]
theorem omD_size {H : Type} (m : OM) : Maps.size (omD (H := H) m) = m.length := by
  unfold omD Maps.size
  simp
theorem getM_ins (t : Int) (o : OV) : ∀ (m : OM), (∀ p ∈ m, p.1 ≠ t) → ∀ t', getM (insM (t, o) m) t' = if t' = t then some o else getM m t'
  | [], _, t' => by
    simp only [insM, getM]
    by_cases h : t = t'
    · simp [h]
    · rw [if_neg h, if_neg (fun e => h e.symm)]
  | y :: r, hm, t' => by
    have hy : y.1 ≠ t := hm y (by simp)
    simp only [insM]
    by_cases h : t < y.1
    · rw [if_pos h]
      simp only [getM]
      by_cases h2 : t = t'
      · simp [h2]
      · rw [if_neg h2, if_neg (show ¬ t' = t from fun e => h2 e.symm)]
    · rw [if_neg h]
      simp only [getM]
      rw [getM_ins t o r (fun p hp => hm p (by simp [hp])) t']
      by_cases h2 : y.1 = t'
      · rw [if_pos h2, if_pos h2, if_neg (fun e => hy (h2.trans e))]
      · rw [if_neg h2, if_neg h2]
theorem getM_del (m : OM) (t t' : Int) (h : t' ≠ t) : getM (delM m t) t' = getM m t' := by
  unfold delM
  induction m with
  | nil => rfl
  | cons p m ih =>
    by_cases hp : p.1 = t
    · rw [List.filter_cons_of_neg (by simp [hp])]
      simp only [getM]
      rw [if_neg (fun e => h (e.symm.trans hp)), ih]
    · rw [List.filter_cons_of_pos (by simp [hp])]
      simp only [getM, ih]
theorem delM_ne (m : OM) (t : Int) : ∀ p ∈ delM m t, p.1 ≠ t := fun p hp => by
  unfold delM at hp
  simpa using (List.mem_filter.1 hp).2
theorem getM_put (m : OM) (t : Int) (o : OV) (t' : Int) : getM (putM m t o) t' = if t' = t then some o else getM m t' := by
  unfold putM
  rw [getM_ins t o _ (delM_ne m t)]
  by_cases h : t' = t
  · rw [if_pos h, if_pos h]
  · rw [if_neg h, if_neg h, getM_del m t t' h]
theorem mem_insM {x q : Int × OV} : ∀ {m : OM}, q ∈ insM x m ↔ q = x ∨ q ∈ m
  | [] => by simp [insM]
  | y :: r => by
    simp only [insM]
    split
    · simp
    · rw [List.mem_cons, mem_insM, List.mem_cons]
      constructor
      · rintro (h | h | h)
        · exact .inr (.inl h)
        · exact .inl h
        · exact .inr (.inr h)
      · rintro (h | h | h)
        · exact .inr (.inl h)
        · exact .inl h
        · exact .inr (.inr h)
theorem sorted_ins {x : Int × OV} : ∀ {m : OM}, SortedM m → (∀ p ∈ m, p.1 ≠ x.1) → SortedM (insM x m)
  | [], _, _ => by simp [insM, SortedM]
  | y :: r, h, hm => by
    unfold SortedM at h
    rw [List.pairwise_cons] at h
    simp only [insM]
    split
    · rename_i hlt
      unfold SortedM
      rw [List.pairwise_cons, List.pairwise_cons]
      refine ⟨fun q hq => ?_, h⟩
      rcases List.mem_cons.1 hq with rfl | hq
      · exact hlt
      · exact Int.lt_trans hlt (h.1 q hq)
    · rename_i hlt
      unfold SortedM
      rw [List.pairwise_cons]
      refine ⟨fun q hq => ?_, sorted_ins h.2 (fun p hp => hm p (by simp [hp]))⟩
      have hne := hm y (by simp)
      rcases mem_insM.1 hq with rfl | hq
      · omega
      · exact h.1 q hq
theorem sorted_put {m : OM} (h : SortedM m) (t : Int) (o : OV) : SortedM (putM m t o) :=
  sorted_ins (List.Pairwise.filter _ h) (fun p hp => delM_ne m t p hp)
theorem putM_len (m : OM) (t : Int) (o : OV) : (putM m t o).length ≤ m.length + 1 := by
  unfold putM
  have h1 : ∀ (x : Int × OV) (l : OM), (insM x l).length = l.length + 1 := by
    intro x l
    induction l with
    | nil => rfl
    | cons y r ih =>
      simp only [insM]
      split
      · rfl
      · simp [ih]
  rw [h1]
  have := List.length_filter_le (fun p : Int × OV => !decide (p.1 = t)) m
  unfold delM
  omega
theorem mem_get {m : OM} (h : SortedM m) {p : Int × OV} (hp : p ∈ m) : getM m p.1 = some p.2 := by
  induction m with
  | nil => cases hp
  | cons y r ih =>
    unfold SortedM at h
    rw [List.pairwise_cons] at h
    simp only [getM]
    rcases List.mem_cons.1 hp with rfl | hq
    · rw [if_pos rfl]
    · have := h.1 p hq
      rw [if_neg (by omega)]
      exact ih h.2 hq
theorem get_mem {m : OM} {t : Int} {o : OV} (h : getM m t = some o) : (t, o) ∈ m := by
  induction m with
  | nil => cases h
  | cons y r ih =>
    simp only [getM] at h
    split at h
    · rename_i he
      have : y.2 = o := Option.some.inj h
      rw [← this, ← he]
      exact List.mem_cons_self
    · exact List.mem_cons_of_mem _ (ih h)
theorem keys_sorted {m : OM} (h : SortedM m) : (m.map (·.1)).mergeSort leI = m.map (·.1) := by
  apply List.mergeSort_of_pairwise
  rw [List.pairwise_map]
  exact h.imp (fun hlt => by simp only [leI, decide_eq_true_eq]; omega)
end Go.Proofs.Ytleiiedacachjaa
