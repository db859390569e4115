/- Wardens: what the reference does, as plain functions, and that it is what a post does. -/
import Derived.Test.YthijckdablkofaaDClimbs
namespace Go.Proofs.Ythijckdablkofaa
structure RO where
  town : Int
  level : Int
  hour : Int
  done : Bool
structure RS where
  n : Nat
  l : List RO
def raiseR (s : RS) (t l h : Int) : Int × RS := if okRaise t l h then ((s.l.length : Int) + 1, ⟨s.n, s.l ++ [⟨t, l, h, false⟩]⟩) else (0, s)
/-- one more than the index of the last order of a town, or nought -/
def lastN (t : Int) : List RO → Nat
  | [] => 0
  | x :: l => if lastN t l = 0 then (if x.town = t then 1 else 0) else lastN t l + 1
def lastI (t : Int) (l : List RO) : Int := (lastN t l : Int) - 1
theorem lastN_le (t : Int) : ∀ l : List RO, lastN t l ≤ l.length
  | [] => Nat.le_refl _
  | x :: l => by
    have := lastN_le t l
    simp only [lastN, List.length_cons]
    split
    · split <;> omega
    · omega
theorem lastN_snoc (t : Int) (x : RO) : ∀ l : List RO, lastN t (l ++ [x]) = if x.town = t then l.length + 1 else lastN t l
  | [] => by simp [lastN]
  | y :: l => by
    simp only [List.cons_append, lastN, List.length_cons, lastN_snoc t x l]
    by_cases h : x.town = t
    · simp [h]
    · simp [h]
/-- the last order of the town among the first k, walking down -/
theorem lastN_down (t : Int) (l : List RO) : lastN t l = 0 ∨ ∃ x, l[lastN t l - 1]? = some x ∧ x.town = t := by
  induction l with
  | nil => exact Or.inl rfl
  | cons y l ih =>
    simp only [lastN]
    by_cases h : lastN t l = 0
    · rw [if_pos h]
      by_cases hy : y.town = t
      · rw [if_pos hy]
        exact Or.inr ⟨y, rfl, hy⟩
      · rw [if_neg hy]
        exact Or.inl rfl
    · rw [if_neg h]
      rcases ih with h1 | ⟨x, h1, h2⟩
      · exact absurd h1 h
      · refine Or.inr ⟨x, ?_, h2⟩
        have : lastN t l + 1 - 1 = (lastN t l - 1) + 1 := by omega
        rw [this, List.getElem?_cons_succ]
        exact h1
def getR (l : List RO) (t : Int) : Option RO := if lastN t l = 0 then none else l[lastN t l - 1]?
theorem getR_some {l : List RO} {t : Int} (h : lastN t l ≠ 0) : ∃ x, l[lastN t l - 1]? = some x ∧ x.town = t ∧ getR l t = some x := by
  rcases lastN_down t l with h1 | ⟨x, h1, h2⟩
  · exact absurd h1 h
  · exact ⟨x, h1, h2, by unfold getR; rw [if_neg h, h1]⟩
/-- what the list of all orders says of a town -/
def ovR (l : List RO) (t : Int) : Option OV := (getR l t).map fun x => ⟨x.level, (lastN t l : Int), x.hour, x.done⟩
def awaitsR (s : RS) (c : CV) : Bool := awaitsO s.n c (ovR s.l c.town)
def setDone (l : List RO) (i : Nat) : List RO := match l[i]? with | some x => l.set i ⟨x.town, x.level, x.hour, true⟩ | none => l
def ackR (s : RS) (c : CV) : Bool × RS := if awaitsR s c then (true, ⟨s.n, setDone s.l (lastN c.town s.l - 1)⟩) else (false, s)
theorem setDone_town (l : List RO) (i j : Nat) : ((setDone l i)[j]?).map (·.town) = (l[j]?).map (·.town) := by
  unfold setDone
  cases h : l[i]? with
  | none => rfl
  | some x =>
    simp only
    by_cases e : i = j
    · subst e
      rw [List.getElem?_set_self (List.getElem?_eq_some_iff.1 h).1, h]
      rfl
    · rw [List.getElem?_set_ne e]
theorem lastN_congr (t : Int) : ∀ (a b : List RO), a.map (·.town) = b.map (·.town) → lastN t a = lastN t b
  | [], [], _ => rfl
  | [], _ :: _, h => by cases h
  | _ :: _, [], h => by cases h
  | x :: a, y :: b, h => by
    simp only [List.map_cons, List.cons.injEq] at h
    simp only [lastN, lastN_congr t a b h.2, h.1]
theorem setDone_map (l : List RO) (i : Nat) : (setDone l i).map (·.town) = l.map (·.town) := by
  apply List.ext_getElem?
  intro j
  rw [List.getElem?_map, List.getElem?_map]
  exact setDone_town l i j
theorem setDone_len (l : List RO) (i : Nat) : (setDone l i).length = l.length := by
  have := congrArg List.length (setDone_map l i)
  simpa using this
/-- a post and the reference's list say the same -/
structure Ref (s : WS) (q : RS) : Prop where
  n : s.n = q.n
  r : s.r = q.l.length
  get : ∀ t, getM s.m t = ovR q.l t
theorem ref_new (n : Nat) : Ref (newS n) ⟨n, []⟩ := ⟨rfl, rfl, fun _ => rfl⟩
theorem ref_raise {s : WS} {q : RS} (h : Ref s q) (t l hr : Int) : (raiseS s t l hr).1 = (raiseR q t l hr).1 ∧ Ref (raiseS s t l hr).2 (raiseR q t l hr).2 := by
  unfold raiseS raiseR
  by_cases hok : okRaise t l hr
  · rw [if_pos hok, if_pos hok]
    refine ⟨by simp only; rw [h.r], h.n, ?_, fun t' => ?_⟩
    · simp [h.r]
    · simp only
      rw [getM_put]
      have hs := lastN_snoc t' ⟨t, l, hr, false⟩ q.l
      simp only at hs
      by_cases e : t' = t
      · subst e
        rw [if_pos rfl] at hs ⊢
        unfold ovR getR
        rw [hs, if_neg (by omega), Nat.add_sub_cancel, List.getElem?_append_right (Nat.le_refl _), Nat.sub_self, h.r]
        simp
      · rw [if_neg e, h.get t']
        rw [if_neg (fun e2 => e e2.symm)] at hs
        unfold ovR getR
        rw [hs]
        by_cases h0 : lastN t' q.l = 0
        · rw [if_pos h0, if_pos h0]
        · rw [if_neg h0, if_neg h0, List.getElem?_append_left (by have := lastN_le t' q.l; omega)]
  · rw [if_neg hok, if_neg hok]
    exact ⟨rfl, h⟩
theorem ref_awaits {s : WS} {q : RS} (h : Ref s q) (c : CV) : awaitsS s c = awaitsR q c := by
  unfold awaitsS awaitsR
  rw [h.get, h.n]
theorem ref_ack {s : WS} {q : RS} (h : Ref s q) (c : CV) : (ackS s c).1 = (ackR q c).1 ∧ Ref (ackS s c).2 (ackR q c).2 := by
  unfold ackS ackR
  rw [ref_awaits h]
  cases ha : awaitsR q c with
  | false => exact ⟨rfl, h⟩
  | true =>
    simp only [if_true]
    refine ⟨trivial, ?_⟩
    have h0 : lastN c.town q.l ≠ 0 := by
      intro h0
      unfold awaitsR ovR getR at ha
      rw [if_pos h0] at ha
      cases ha
    obtain ⟨x, hx, hxt, hg⟩ := getR_some h0
    rw [h.get c.town]
    unfold ovR
    rw [hg]
    simp only [Option.map_some, ackO]
    refine ⟨h.n, by rw [setDone_len]; exact h.r, fun t' => ?_⟩
    rw [getM_put]
    have hl : lastN t' (setDone q.l (lastN c.town q.l - 1)) = lastN t' q.l := lastN_congr t' _ _ (setDone_map _ _)
    unfold ovR getR
    rw [hl]
    by_cases e : t' = c.town
    · subst e
      rw [if_pos rfl, if_neg h0]
      unfold setDone
      rw [hx]
      simp only
      rw [List.getElem?_set_self (List.getElem?_eq_some_iff.1 hx).1]
      rfl
    · rw [if_neg e, h.get t']
      unfold ovR getR
      by_cases h1 : lastN t' q.l = 0
      · rw [if_pos h1, if_pos h1]
      · rw [if_neg h1, if_neg h1]
        have hne : lastN c.town q.l - 1 ≠ lastN t' q.l - 1 := by
          intro e2
          obtain ⟨y, hy, hyt, _⟩ := getR_some h1
          rw [← e2, hx] at hy
          have := Option.some.inj hy
          rw [this] at hxt
          exact e (hyt.symm.trans hxt)
        unfold setDone
        rw [hx]
        simp only
        rw [List.getElem?_set_ne hne]
/-- is the town's last order open? -/
def isOpen (l : List RO) (t : Int) : Bool := match getR l t with | some x => !x.done | none => false
def openR (l : List RO) (k : Nat) : List Int := ((List.range k).map fun j : Nat => (j : Int)).filter (isOpen l)
theorem openR_succ (l : List RO) (k : Nat) : openR l (k + 1) = openR l k ++ if isOpen l k then [(k : Int)] else [] := by
  unfold openR
  rw [List.range_succ, List.map_append, List.filter_append]
  simp only [List.map_cons, List.map_nil, List.filter_cons, List.filter_nil]
theorem strict_ext : ∀ (a b : List Int), a.Pairwise (· < ·) → b.Pairwise (· < ·) → (∀ x, x ∈ a ↔ x ∈ b) → a = b
  | [], [], _, _, _ => rfl
  | [], y :: b, _, _, h => by have := (h y).2 (by simp); cases this
  | x :: a, [], _, _, h => by have := (h x).1 (by simp); cases this
  | x :: a, y :: b, ha, hb, h => by
    rw [List.pairwise_cons] at ha hb
    have hxy : x = y := by
      have h1 := (h x).1 (by simp)
      have h2 := (h y).2 (by simp)
      rcases List.mem_cons.1 h1 with e | h1
      · exact e
      · rcases List.mem_cons.1 h2 with e | h2
        · exact e.symm
        · have := ha.1 y h2
          have := hb.1 x h1
          omega
    subst hxy
    rw [strict_ext a b ha.2 hb.2 (fun z => ?_)]
    constructor
    · intro hz
      rcases List.mem_cons.1 ((h z).1 (List.mem_cons_of_mem _ hz)) with e | h1
      · have := ha.1 z hz
        omega
      · exact h1
    · intro hz
      rcases List.mem_cons.1 ((h z).2 (List.mem_cons_of_mem _ hz)) with e | h1
      · have := hb.1 z hz
        omega
      · exact h1
theorem range_strict (k : Nat) : ((List.range k).map fun j : Nat => (j : Int)).Pairwise (· < ·) := by
  rw [List.pairwise_map]
  exact List.pairwise_lt_range.imp (fun h => by omega)
theorem ref_open {s : WS} {q : RS} (h : Ref s q) (hs : WOk s) : openS s = openR q.l 40 := by
  apply strict_ext
  · unfold openS openM
    rw [List.pairwise_map]
    exact List.Pairwise.filter _ hs.sorted
  · exact (range_strict 40).filter _
  · intro t
    unfold openS openM openR
    rw [List.mem_map, List.mem_filter]
    constructor
    · rintro ⟨p, hp, rfl⟩
      rw [List.mem_filter] at hp
      have hb := hs.ok p hp.1
      have hg := h.get p.1
      rw [mem_get hs.sorted hp.1] at hg
      refine ⟨List.mem_map.2 ⟨p.1.toNat, List.mem_range.2 (by omega), by omega⟩, ?_⟩
      unfold ovR at hg
      unfold isOpen
      cases hr : getR q.l p.1 with
      | none => rw [hr] at hg; cases hg
      | some x =>
        rw [hr] at hg
        have := Option.some.inj hg
        have hp2 := hp.2
        rw [this] at hp2
        exact hp2
    · rintro ⟨_, ho⟩
      unfold isOpen at ho
      cases hr : getR q.l t with
      | none => rw [hr] at ho; cases ho
      | some x =>
        rw [hr] at ho
        have hg := h.get t
        unfold ovR at hg
        rw [hr] at hg
        exact ⟨(t, _), List.mem_filter.2 ⟨get_mem hg, ho⟩, rfl⟩
/-- the calls for a town's last order -/
def dueT (l : List RO) (n : Nat) (h t : Int) : List CV := match getR l t with
  | some x => ((List.range n).filter fun w : Nat => decide (x.hour + 3 * (w : Int) ≤ h)).map fun w : Nat => ⟨t, x.level, (lastN t l : Int), (w : Int)⟩
  | none => []
def dueR (q : RS) (h : Int) : List CV := (openR q.l 40).flatMap (dueT q.l q.n h)
theorem range_filter (h o : Int) : ∀ n : Nat, (List.range n).filter (fun w : Nat => decide (o + 3 * (w : Int) ≤ h)) = if h < o then [] else List.range (min (((h - o) / 3).toNat + 1) n)
  | 0 => by simp
  | n + 1 => by
    rw [List.range_succ, List.filter_append, range_filter h o n]
    by_cases h1 : h < o
    · rw [if_pos h1, if_pos h1]
      simp
      omega
    · rw [if_neg h1, if_neg h1]
      have h0 : 0 ≤ (h - o) / 3 := Int.ediv_nonneg (by omega) (by decide)
      by_cases h2 : o + 3 * (n : Int) ≤ h
      · have e1 : min (((h - o) / 3).toNat + 1) n = n := by omega
        have e2 : min (((h - o) / 3).toNat + 1) (n + 1) = n + 1 := by omega
        rw [e1, e2, List.range_succ]
        simp [h2]
      · have e1 : min (((h - o) / 3).toNat + 1) n = ((h - o) / 3).toNat + 1 := by omega
        have e2 : min (((h - o) / 3).toNat + 1) (n + 1) = ((h - o) / 3).toNat + 1 := by omega
        rw [e1, e2]
        simp [h2]
theorem ref_due {s : WS} {q : RS} (h : Ref s q) (hs : WOk s) (hr : Int) : dueS s hr = dueR q hr := by
  unfold dueR
  rw [← ref_open h hs]
  unfold dueS openS
  rw [List.flatMap_map, List.flatMap_def, List.flatMap_def]
  congr 1
  apply List.map_congr_left
  intro p hp
  have hp1 := (List.mem_filter.1 hp).1
  have hg := h.get p.1
  rw [mem_get hs.sorted hp1] at hg
  unfold ovR at hg
  unfold dueT
  cases hgr : getR q.l p.1 with
  | none => rw [hgr] at hg; cases hg
  | some x =>
    rw [hgr] at hg
    have he := Option.some.inj hg
    simp only
    rw [range_filter]
    unfold dueOne
    rw [he, h.n]
    simp only
    split <;> rfl
end Go.Proofs.Ythijckdablkofaa
