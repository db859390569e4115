/- Wardens: acknowledging all calls of an hour, one after the other. -/
import Derived.Test.YthijckdablkofaaDOps
namespace Go.Proofs.Ythijckdablkofaa
theorem get_none {m : OM} {t : Int} (h : ∀ p ∈ m, p.1 ≠ t) : getM m t = none := by
  induction m with
  | nil => rfl
  | cons y r ih =>
    simp only [getM]
    rw [if_neg (h y (by simp))]
    exact ih (fun p hp => h p (by simp [hp]))
theorem sorted_ext : ∀ {a b : OM}, SortedM a → SortedM b → (∀ t, getM a t = getM b t) → a = b
  | [], [], _, _, _ => rfl
  | [], q :: b, _, hb, h => by
    have := h q.1
    rw [mem_get hb (by simp)] at this
    cases this
  | p :: a, [], ha, _, h => by
    have := h p.1
    rw [mem_get ha (by simp)] at this
    cases this
  | p :: a, q :: b, ha, hb, h => by
    have h1 := h p.1
    rw [mem_get ha (by simp)] at h1
    have m1 := get_mem h1.symm
    have h2 := h q.1
    rw [mem_get hb (by simp)] at h2
    have m2 := get_mem h2
    have ha' := ha
    have hb' := hb
    unfold SortedM at ha' hb'
    rw [List.pairwise_cons] at ha' hb'
    have hpq : p = q := by
      rcases List.mem_cons.1 m1 with e | e
      · exact Prod.ext (congrArg (fun x : Int × OV => x.1) e) (congrArg (fun x : Int × OV => x.2) e)
      · rcases List.mem_cons.1 m2 with e2 | e2
        · exact (Prod.ext (congrArg (fun x : Int × OV => x.1) e2) (congrArg (fun x : Int × OV => x.2) e2)).symm
        · have x1 := hb'.1 _ e
          have x2 := ha'.1 _ e2
          simp only at x1 x2
          omega
    subst hpq
    rw [sorted_ext ha'.2 hb'.2 (fun t => by
      have ht := h t
      simp only [getM] at ht
      by_cases e : p.1 = t
      · rw [get_none (fun x hx => by have := ha'.1 x hx; omega), get_none (fun x hx => by have := hb'.1 x hx; omega)]
      · rw [if_neg e, if_neg e] at ht
        exact ht)]
/-- the orders of the towns in S are acknowledged -/
def markO (S : List Int) (t : Int) (o : OV) : OV := if t ∈ S then ⟨o.level, o.number, o.hour, true⟩ else o
def markM (S : List Int) (m : OM) : OM := m.map fun p => (p.1, markO S p.1 p.2)
theorem get_mark (S : List Int) (m : OM) (t : Int) : getM (markM S m) t = (getM m t).map (markO S t) := by
  induction m with
  | nil => rfl
  | cons p m ih =>
    simp only [markM, List.map_cons, getM]
    by_cases h : p.1 = t
    · rw [if_pos h, if_pos h, h]
      rfl
    · rw [if_neg h, if_neg h]
      exact ih
theorem sorted_mark (S : List Int) {m : OM} (h : SortedM m) : SortedM (markM S m) := by
  unfold SortedM markM
  rw [List.pairwise_map]
  exact h
theorem mark_nil (m : OM) : markM [] m = m := by
  unfold markM markO
  simp
theorem mark_again {S T : List Int} (h : ∀ t, t ∈ S ↔ t ∈ T) (m : OM) : markM S m = markM T m := by
  unfold markM markO
  apply List.map_congr_left
  intro p _
  simp only [h p.1]
theorem put_mark {S : List Int} {m : OM} (hs : SortedM m) {t : Int} {o : OV} (hg : getM m t = some o) (hn : ¬ t ∈ S) : putM (markM S m) t ⟨o.level, o.number, o.hour, true⟩ = markM (S ++ [t]) m := by
  apply sorted_ext (sorted_put (sorted_mark S hs) _ _) (sorted_mark _ hs)
  intro t'
  rw [getM_put, get_mark, get_mark]
  by_cases h : t' = t
  · subst h
    rw [if_pos rfl, hg]
    simp [markO]
  · rw [if_neg h]
    cases getM m t' with
    | none => rfl
    | some o' =>
      simp only [Option.map_some, markO, List.mem_append, List.mem_singleton, h, or_false]
theorem open_mark (S : List Int) (m : OM) : openM (markM S m) = (openM m).filter fun p => !decide (p.1 ∈ S) := by
  unfold openM markM
  induction m with
  | nil => rfl
  | cons p m ih =>
    simp only [List.map_cons]
    by_cases hS : p.1 ∈ S
    · rw [List.filter_cons_of_neg (by simp [markO, hS]), ih]
      by_cases hd : p.2.done
      · rw [List.filter_cons_of_neg (by simp [hd])]
      · rw [List.filter_cons_of_pos (by simp [hd]), List.filter_cons_of_neg (by simp [hS])]
    · have e : markO S p.1 p.2 = p.2 := by simp [markO, hS]
      by_cases hd : p.2.done
      · rw [List.filter_cons_of_neg (by simp [e, hd]), List.filter_cons_of_neg (by simp [hd]), ih]
      · rw [List.filter_cons_of_pos (by simp [e, hd]), List.filter_cons_of_pos (by simp [hd]), List.filter_cons_of_pos (by simp [hS]), ih, e]
theorem mem_due {s : WS} (hs : WOk s) {h : Int} {c : CV} (hc : c ∈ dueS s h) : ∃ o, getM s.m c.town = some o ∧ o.done = false ∧ c.level = o.level ∧ c.number = o.number ∧ 0 ≤ c.warden ∧ c.warden < s.n ∧ ¬ h < o.hour := by
  unfold dueS at hc
  obtain ⟨p, hp, hc⟩ := List.mem_flatMap.1 hc
  unfold openM at hp
  rw [List.mem_filter] at hp
  unfold dueOne at hc
  split at hc
  · cases hc
  · rename_i hh
    obtain ⟨w, hw, rfl⟩ := List.mem_map.1 hc
    have := List.mem_range.1 hw
    refine ⟨p.2, mem_get hs.sorted hp.1, by simpa using hp.2, rfl, rfl, by simp only; omega, by simp only; omega, hh⟩
theorem due_head {s : WS} (hs : WOk s) {h : Int} {p : Int × OV} (hp : p ∈ openM s.m) (hh : ¬ h < p.2.hour) : ∃ c ∈ dueS s h, c.town = p.1 := by
  refine ⟨⟨p.1, p.2.level, p.2.number, ((0 : Nat) : Int)⟩, ?_, rfl⟩
  unfold dueS
  refine List.mem_flatMap.2 ⟨p, hp, ?_⟩
  unfold dueOne
  rw [if_neg hh]
  refine List.mem_map.2 ⟨0, ?_, rfl⟩
  have := hs.n1
  rw [List.mem_range]
  omega
/-- the calls of an hour come town by town, towns rising -/
theorem due_rising {s : WS} (hs : WOk s) (h : Int) : (dueS s h).Pairwise fun a b => a.town ≤ b.town := by
  unfold dueS
  rw [List.pairwise_flatMap]
  refine ⟨fun p _ => ?_, ?_⟩
  · unfold dueOne
    split
    · exact List.Pairwise.nil
    · rw [List.pairwise_map]
      exact List.pairwise_of_forall (fun _ _ => Int.le_refl _)
  · unfold openM
    refine (List.Pairwise.filter _ hs.sorted).imp ?_
    intro p q hpq a ha b hb
    have e1 : a.town = p.1 := by
      unfold dueOne at ha
      split at ha
      · cases ha
      · obtain ⟨_, _, rfl⟩ := List.mem_map.1 ha
        rfl
    have e2 : b.town = q.1 := by
      unfold dueOne at hb
      split at hb
      · cases hb
      · obtain ⟨_, _, rfl⟩ := List.mem_map.1 hb
        rfl
    rw [e1, e2]
    exact Int.le_of_lt hpq
/-- the towns of the first i calls -/
def seenT (l : List CV) (i : Nat) : List Int := (l.take i).map (·.town)
theorem seen_prev {l : List CV} (hl : l.Pairwise fun a b => a.town ≤ b.town) {i : Nat} {c : CV} (hc : l[i]? = some c) :
    c.town ∈ seenT l i ↔ ∃ b, 0 < i ∧ l[i - 1]? = some b ∧ b.town = c.town := by
  unfold seenT
  constructor
  · intro h
    obtain ⟨a, ha, hat⟩ := List.mem_map.1 h
    obtain ⟨j, hj⟩ := List.mem_iff_getElem?.1 ha
    rw [List.getElem?_take] at hj
    split at hj
    · rename_i hji
      have hi : i - 1 < l.length := by have := (List.getElem?_eq_some_iff.1 hc).1; omega
      refine ⟨l[i - 1], by omega, List.getElem?_eq_getElem hi, ?_⟩
      have hci : i < l.length := (List.getElem?_eq_some_iff.1 hc).1
      have hcl : l[i] = c := (List.getElem?_eq_some_iff.1 hc).2
      have hjl : l[j]'(by omega) = a := (List.getElem?_eq_some_iff.1 hj).2
      have p1 : l[i - 1].town ≤ c.town := by
        rw [← hcl]
        exact List.pairwise_iff_getElem.1 hl (i - 1) i hi hci (by omega)
      have p2 : a.town ≤ l[i - 1].town := by
        rcases Nat.lt_or_ge j (i - 1) with hlt | hge
        · rw [← hjl]
          exact List.pairwise_iff_getElem.1 hl j (i - 1) (by omega) hi hlt
        · have : j = i - 1 := by omega
          subst this
          rw [← hjl]
          exact Int.le_refl _
      omega
    · cases hj
  · rintro ⟨b, hi, hb, e⟩
    refine List.mem_map.2 ⟨b, List.mem_iff_getElem?.2 ⟨i - 1, ?_⟩, e⟩
    rw [List.getElem?_take, if_pos (by omega)]
    exact hb
theorem seen_succ {l : List CV} {i : Nat} {c : CV} (hc : l[i]? = some c) : seenT l (i + 1) = seenT l i ++ [c.town] := by
  unfold seenT
  rw [List.take_add_one, hc]
  simp
end Go.Proofs.Ythijckdablkofaa
