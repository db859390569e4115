/- Wardens: plain laws for the statements. -/
import Derived.Test.YthijckdablkofaaDAck
namespace Go.Proofs.Ythijckdablkofaa
/-- how many of the entries are of a town in S -/
def cnt (S : List Int) (m : OM) : Nat := m.countP fun p => decide (p.1 ∈ S)
theorem cnt_again {S : List Int} {t : Int} (h : t ∈ S) (m : OM) : cnt (S ++ [t]) m = cnt S m := by
  unfold cnt
  apply List.countP_congr
  intro p _
  simp only [List.mem_append, List.mem_singleton, decide_eq_true_eq]
  constructor
  · rintro (h1 | h1)
    · exact h1
    · rw [h1]; exact h
  · exact Or.inl
theorem cnt_absent {S : List Int} {t : Int} {m : OM} (h : ∀ p ∈ m, p.1 ≠ t) : cnt (S ++ [t]) m = cnt S m := by
  unfold cnt
  apply List.countP_congr
  intro p hp
  simp only [List.mem_append, List.mem_singleton, decide_eq_true_eq]
  constructor
  · rintro (h1 | h1)
    · exact h1
    · exact absurd h1 (h p hp)
  · exact Or.inl
theorem cnt_new {S : List Int} {t : Int} (hn : ¬ t ∈ S) : ∀ {m : OM}, SortedM m → ∀ {o : OV}, (t, o) ∈ m → cnt (S ++ [t]) m = cnt S m + 1
  | [], _, _, h => by cases h
  | p :: m, hs, o, h => by
    unfold SortedM at hs
    rw [List.pairwise_cons] at hs
    have e : ∀ T, cnt T (p :: m) = cnt T m + if p.1 ∈ T then 1 else 0 := fun T => by
      unfold cnt
      rw [List.countP_cons]
      simp
    rw [e, e]
    rcases List.mem_cons.1 h with rfl | h
    · have h1 : ∀ q ∈ m, q.1 ≠ t := fun q hq => by have := hs.1 q hq; simp only at this; omega
      rw [cnt_absent h1, if_pos (by simp), if_neg hn]
    · have h1 : p.1 ≠ t := by have := hs.1 _ h; simp only at this; omega
      rw [cnt_new hn hs.2 h]
      have : (p.1 ∈ S ++ [t]) ↔ p.1 ∈ S := by simp [h1]
      simp only [this]
      omega
theorem cnt_left (S : List Int) (m : OM) : ((m.filter fun p => !decide (p.1 ∈ S)).length : Int) = (m.length : Int) - cnt S m := by
  unfold cnt
  induction m with
  | nil => rfl
  | cons p m ih =>
    rw [List.countP_cons]
    by_cases h : p.1 ∈ S
    · rw [List.filter_cons_of_neg (by simp [h])]
      simp only [h, decide_true, if_true, List.length_cons]
      omega
    · rw [List.filter_cons_of_pos (by simp [h])]
      simp only [h, decide_false, Bool.false_eq_true, if_false, List.length_cons]
      omega
/-- once all that are due are acknowledged, none is -/
theorem due_none {s : WS} (hs : WOk s) (h : Int) : dueS ⟨s.n, s.r, markM (seenT (dueS s h) (dueS s h).length) s.m⟩ h = [] := by
  unfold dueS
  simp only
  rw [open_mark, List.flatMap_eq_nil_iff]
  intro p hp
  rw [List.mem_filter] at hp
  unfold dueOne
  split
  · rfl
  · rename_i hh
    exfalso
    obtain ⟨c, hc, hct⟩ := due_head hs hp.1 hh
    have : p.1 ∈ seenT (dueS s h) (dueS s h).length := by
      unfold seenT
      rw [List.take_length]
      exact List.mem_map.2 ⟨c, hc, hct⟩
    have h2 := hp.2
    unfold dueS at this
    rw [decide_eq_true this] at h2
    cases h2
/-- the calls of one town -/
theorem due_town {s : WS} (hs : WOk s) (h t : Int) : (dueS s h).filter (fun c => decide (c.town = t)) = match getM s.m t with | some o => if o.done then [] else dueOne s.n h (t, o) | none => [] := by
  have one : ∀ p : Int × OV, (dueOne s.n h p).filter (fun c => decide (c.town = t)) = if p.1 = t then dueOne s.n h p else [] := fun p => by
    unfold dueOne
    split
    · simp
    · by_cases e : p.1 = t
      · rw [if_pos e, List.filter_eq_self.2]
        intro c hc
        obtain ⟨_, _, rfl⟩ := List.mem_map.1 hc
        simp [e]
      · rw [if_neg e, List.filter_eq_nil_iff]
        intro c hc
        obtain ⟨_, _, rfl⟩ := List.mem_map.1 hc
        simp [e]
  unfold dueS openM
  have hsm := hs.sorted
  generalize s.m = m at hsm
  induction m with
  | nil => rfl
  | cons p m ih =>
    unfold SortedM at hsm
    rw [List.pairwise_cons] at hsm
    have ih' := ih hsm.2
    simp only [getM]
    by_cases e : p.1 = t
    · rw [if_pos e]
      have hno : getM m t = none := get_none (fun q hq => by have := hsm.1 q hq; omega)
      rw [hno] at ih'
      simp only at ih' ⊢
      by_cases hd : p.2.done
      · rw [List.filter_cons_of_neg (by simp [hd]), if_pos hd]
        exact ih'
      · rw [List.filter_cons_of_pos (by simp [hd]), List.flatMap_cons, List.filter_append, one, if_pos e, ih', List.append_nil]
        simp only [hd, Bool.false_eq_true, if_false]
        rw [← e]
    · rw [if_neg e, ← ih']
      by_cases hd : p.2.done
      · rw [List.filter_cons_of_neg (by simp [hd])]
      · rw [List.filter_cons_of_pos (by simp [hd]), List.flatMap_cons, List.filter_append, one, if_neg e, List.nil_append]
theorem dueOne_get {n : Nat} {h : Int} {p : Int × OV} {g : Nat} {c : CV} (hg : (dueOne n h p)[g]? = some c) : c = ⟨p.1, p.2.level, p.2.number, (g : Int)⟩ := by
  unfold dueOne at hg
  split at hg
  · simp at hg
  · rw [List.getElem?_map] at hg
    obtain ⟨w, hw, rfl⟩ := Option.map_eq_some_iff.1 hg
    have := (List.getElem?_eq_some_iff.1 hw).2
    simp only [List.getElem_range] at this
    rw [this]
theorem dueOne_count (n : Nat) (h : Int) (p : Int × OV) (_hp : 0 ≤ p.2.hour) : ((dueOne n h p).length : Int) = if p.2.hour ≤ h then min (n : Int) (1 + (h - p.2.hour) / 3) else 0 := by
  unfold dueOne
  by_cases hh : h < p.2.hour
  · rw [if_pos hh, if_neg (by omega)]
    rfl
  · rw [if_neg hh, if_pos (by omega), List.length_map, List.length_range]
    have : 0 ≤ (h - p.2.hour) / 3 := Int.ediv_nonneg (by omega) (by decide)
    omega
/-- the next one of a filtered list -/
theorem filter_next {α : Type} {q : α → Bool} {l : List α} {i : Nat} {c : α} (hc : l[i]? = some c) (hq : q c = true) : (l.filter q)[((l.take i).filter q).length]? = some c ∧ (l.take (i + 1)).filter q = (l.take i).filter q ++ [c] := by
  have h1 : l = l.take i ++ c :: l.drop (i + 1) := by
    have hi := (List.getElem?_eq_some_iff.1 hc).1
    have hci := (List.getElem?_eq_some_iff.1 hc).2
    rw [← hci, ← List.drop_eq_getElem_cons hi, List.take_append_drop]
  constructor
  · conv => lhs; arg 1; rw [h1]
    rw [List.filter_append, List.filter_cons_of_pos hq, List.getElem?_append_right (Nat.le_refl _), Nat.sub_self]
    rfl
  · rw [List.take_add_one, hc, List.filter_append]
    simp [hq]
theorem filter_skip {α : Type} {q : α → Bool} {l : List α} {i : Nat} {c : α} (hc : l[i]? = some c) (hq : q c = false) : (l.take (i + 1)).filter q = (l.take i).filter q := by
  rw [List.take_add_one, hc, List.filter_append]
  simp [hq]
end Go.Proofs.Ythijckdablkofaa
