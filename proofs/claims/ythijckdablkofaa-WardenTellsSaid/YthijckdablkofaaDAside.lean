/- Wardens: a post and one that hears of one town alone; and a post with one town. -/
import Derived.Test.YthijckdablkofaaDLaws
namespace Go.Proofs.Ythijckdablkofaa
/-- q has heard what p has heard of the town; first: the numbers that p gave to the town's orders (q gave 1, 2, ..) -/
structure Aside (sp sq : WS) (town : Int) (first : List Int) : Prop where
  n : sq.n = sp.n
  other : ∀ t, t ≠ town → getM sq.m t = none
  r : sq.r = first.length
  rising : first.Pairwise (· < ·)
  bound : ∀ x ∈ first, 1 ≤ x ∧ x ≤ sp.r
  rel : match getM sp.m town with
    | none => getM sq.m town = none ∧ first = []
    | some o => first[first.length - 1]? = some o.number ∧ getM sq.m town = some ⟨o.level, first.length, o.hour, o.done⟩
theorem aside_new (n : Nat) (town : Int) : Aside (newS n) (newS n) town [] := { n := rfl, other := fun _ _ => rfl, r := rfl, rising := List.Pairwise.nil, bound := (fun x hx => by cases hx), rel := ⟨rfl, rfl⟩ }
theorem aside_raise {sp sq : WS} {town : Int} {first : List Int} (h : Aside sp sq town first) {l hr : Int} (hok : okRaise town l hr) :
    Aside (raiseS sp town l hr).2 (raiseS sq town l hr).2 town (first ++ [(sp.r : Int) + 1]) := by
  unfold raiseS
  rw [if_pos hok, if_pos hok]
  refine ⟨h.n, fun t ht => ?_, ?_, ?_, ?_, ?_⟩
  · simp only
    rw [getM_put, if_neg ht]
    exact h.other t ht
  · simp [h.r]
  · rw [List.pairwise_append]
    refine ⟨h.rising, List.pairwise_singleton _ _, fun a ha b hb => ?_⟩
    simp only [List.mem_singleton] at hb
    have := (h.bound a ha).2
    omega
  · intro x hx
    rcases List.mem_append.1 hx with hx | hx
    · have := h.bound x hx
      simp only
      omega
    · simp only [List.mem_singleton] at hx
      simp only
      omega
  · simp only
    rw [getM_put, if_pos rfl, getM_put, if_pos rfl]
    simp only
    refine ⟨?_, ?_⟩
    · rw [List.length_append, List.length_singleton, Nat.add_sub_cancel, List.getElem?_append_right (Nat.le_refl _), Nat.sub_self]
      rfl
    · rw [h.r, List.length_append, List.length_singleton]
      simp
theorem aside_raise_other {sp sq : WS} {town : Int} {first : List Int} (h : Aside sp sq town first) {t l hr : Int} (ht : t ≠ town) : Aside (raiseS sp t l hr).2 sq town first := by
  unfold raiseS
  split
  · refine ⟨h.n, h.other, h.r, h.rising, fun x hx => ?_, ?_⟩
    · have := h.bound x hx
      simp only
      omega
    · simp only
      rw [getM_put, if_neg (fun e => ht e.symm)]
      exact h.rel
  · exact h
theorem ack_get {s : WS} (c : CV) (t : Int) (ht : t ≠ c.town) : getM (ackS s c).2.m t = getM s.m t := by
  unfold ackS
  split
  · cases hg : getM s.m c.town with
    | none => rfl
    | some o =>
      simp only [ackO]
      rw [getM_put, if_neg ht]
  · rfl
theorem aside_ack_other {sp sq : WS} {town : Int} {first : List Int} (h : Aside sp sq town first) {c : CV} (ht : c.town ≠ town) : Aside (ackS sp c).2 sq town first := by
  refine ⟨by rw [(ack_r sp c).2]; exact h.n, h.other, h.r, h.rising, fun x hx => by rw [(ack_r sp c).1]; exact h.bound x hx, ?_⟩
  rw [ack_get c town (fun e => ht e.symm)]
  exact h.rel
/-- the number by which q knows an order of the town -/
def trN : List Int → Nat → Int → Int
  | [], _, _ => -1
  | y :: l, k, x => if y = x then (k : Int) + 1 else trN l (k + 1) x
theorem trN_none : ∀ (l : List Int) (k : Nat) (x : Int), (∀ y ∈ l, y ≠ x) → trN l k x = -1
  | [], _, _, _ => rfl
  | y :: l, k, x, h => by
    simp only [trN]
    rw [if_neg (h y (by simp))]
    exact trN_none l (k + 1) x (fun z hz => h z (by simp [hz]))
theorem trN_at : ∀ (l : List Int) (k : Nat) (x : Int) (j : Nat), l.Pairwise (· < ·) → l[j]? = some x → trN l k x = (k : Int) + j + 1
  | [], _, _, _, _, h => by simp at h
  | y :: l, k, x, 0, _, h => by
    simp only [List.getElem?_cons_zero, Option.some.injEq] at h
    simp [trN, h]
  | y :: l, k, x, j + 1, hp, h => by
    rw [List.pairwise_cons] at hp
    simp only [List.getElem?_cons_succ] at h
    have h1 := hp.1 x (List.mem_of_getElem? h)
    simp only [trN]
    rw [if_neg (by omega), trN_at l (k + 1) x j hp.2 h]
    push_cast
    omega
theorem aside_awaits {sp sq : WS} {town : Int} {first : List Int} (h : Aside sp sq town first) {c : CV} (hc : c.town = town) : awaitsS sq ⟨c.town, c.level, trN first 0 c.number, c.warden⟩ = awaitsS sp c := by
  unfold awaitsS
  simp only
  rw [hc]
  have hrel := h.rel
  cases hg : getM sp.m town with
  | none =>
    rw [hg] at hrel
    simp only at hrel
    rw [hrel.1]
    rfl
  | some o =>
    rw [hg] at hrel
    simp only at hrel
    rw [hrel.2]
    unfold awaitsO
    simp only
    rw [h.n]
    have hlen : 1 ≤ first.length := by have := (List.getElem?_eq_some_iff.1 hrel.1).1; omega
    have key : decide ((first.length : Int) = trN first 0 c.number) = decide (o.number = c.number) := by
      by_cases e : o.number = c.number
      · rw [trN_at first 0 c.number (first.length - 1) h.rising (by rw [← e]; exact hrel.1)]
        simp only [e, decide_true, decide_eq_true_eq]
        omega
      · rw [decide_eq_false e, decide_eq_false_iff_not]
        intro hh
        by_cases hm : c.number ∈ first
        · obtain ⟨j, hj⟩ := List.mem_iff_getElem?.1 hm
          rw [trN_at first 0 c.number j h.rising hj] at hh
          have : j = first.length - 1 := by omega
          rw [this, hrel.1] at hj
          exact e (Option.some.inj hj)
        · rw [trN_none first 0 c.number (fun y hy e2 => hm (e2 ▸ hy))] at hh
          omega
    rw [key]
theorem aside_ack {sp sq : WS} {town : Int} {first : List Int} (h : Aside sp sq town first) {c : CV} (hc : c.town = town) :
    Aside (ackS sp c).2 (ackS sq ⟨c.town, c.level, trN first 0 c.number, c.warden⟩).2 town first := by
  have ha := aside_awaits h hc
  have hrel := h.rel
  subst hc
  refine ⟨by rw [(ack_r sp c).2, (ack_r sq _).2]; exact h.n, fun t ht => (ack_get (s := sq) ⟨c.town, c.level, trN first 0 c.number, c.warden⟩ t ht).trans (h.other t ht), by rw [(ack_r sq _).1]; exact h.r, h.rising, fun x hx => by rw [(ack_r sp c).1]; exact h.bound x hx, ?_⟩
  unfold ackS
  rw [ha]
  by_cases hw : awaitsS sp c = true
  · rw [hw]
    simp only [if_true]
    cases hg : getM sp.m c.town with
    | none =>
      unfold awaitsS at hw
      rw [hg] at hw
      cases hw
    | some o =>
      rw [hg] at hrel
      simp only at hrel
      rw [hrel.2]
      simp only [ackO]
      rw [getM_put, if_pos rfl, getM_put, if_pos rfl]
      exact ⟨hrel.1, rfl⟩
  · have hw' : awaitsS sp c = false := by simpa using hw
    rw [hw']
    simp only [Bool.false_eq_true, if_false]
    exact hrel
/-- all that q calls is of the town -/
theorem aside_due {sp sq : WS} {town : Int} {first : List Int} (h : Aside sp sq town first) (hp : WOk sp) (hq : WOk sq) (hr : Int) :
    (dueS sq hr).map (fun c => (c.town, c.level, c.warden)) = ((dueS sp hr).filter fun c => decide (c.town = town)).map (fun c => (c.town, c.level, c.warden)) := by
  have h1 : (dueS sq hr).filter (fun c => decide (c.town = town)) = dueS sq hr := by
    rw [List.filter_eq_self]
    intro c hc
    obtain ⟨o, hg, _⟩ := mem_due hq hc
    by_cases e : c.town = town
    · exact decide_eq_true e
    · rw [h.other c.town e] at hg
      cases hg
  rw [← h1, due_town hq, due_town hp]
  have hrel := h.rel
  cases hg : getM sp.m town with
  | none =>
    rw [hg] at hrel
    simp only at hrel
    rw [hrel.1]
  | some o =>
    rw [hg] at hrel
    simp only at hrel
    rw [hrel.2]
    simp only
    by_cases hd : o.done
    · rw [if_pos hd, if_pos hd]
    · rw [if_neg hd, if_neg hd]
      unfold dueOne
      simp only
      rw [h.n]
      split
      · rfl
      · rw [List.map_map, List.map_map]
        rfl
theorem due_single (n r : Nat) (t : Int) (o : OV) (hd : o.done = false) (h : Int) : dueS ⟨n, r, [(t, o)]⟩ h = dueOne n h (t, o) := by
  unfold dueS openM
  simp [hd]
theorem due_empty (n r : Nat) (h : Int) : dueS ⟨n, r, []⟩ h = [] := rfl
theorem put_empty (t : Int) (o : OV) : putM [] t o = [(t, o)] := rfl
theorem put_single (t : Int) (o o' : OV) : putM [(t, o)] t o' = [(t, o')] := by
  unfold putM delM
  simp [insM]
end Go.Proofs.Ythijckdablkofaa
