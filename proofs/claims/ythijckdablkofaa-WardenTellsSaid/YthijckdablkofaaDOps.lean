/- Wardens: what a post does, as plain functions on its state. -/
import Derived.Test.YthijckdablkofaaDLaw
namespace Go.Proofs.Ythijckdablkofaa
structure CV where
  town : Int
  level : Int
  number : Int
  warden : Int
deriving DecidableEq
structure WS where
  n : Nat
  r : Nat
  m : OM
def okRaise (t l h : Int) : Prop := 0 ≤ t ∧ t < 40 ∧ 0 ≤ l ∧ l ≤ 3 ∧ 0 ≤ h ∧ h ≤ 16777216
instance (t l h : Int) : Decidable (okRaise t l h) := by unfold okRaise; infer_instance
def raiseS (s : WS) (t l h : Int) : Int × WS := if okRaise t l h then ((s.r : Int) + 1, ⟨s.n, s.r + 1, putM s.m t ⟨l, (s.r : Int) + 1, h, false⟩⟩) else (0, s)
def awaitsO (n : Nat) (c : CV) : Option OV → Bool
  | some o => !o.done && decide (o.number = c.number) && decide (0 ≤ c.warden) && decide (c.warden < n)
  | none => false
def awaitsS (s : WS) (c : CV) : Bool := awaitsO s.n c (getM s.m c.town)
def ackO (s : WS) (c : CV) : Option OV → WS
  | some o => ⟨s.n, s.r, putM s.m c.town ⟨o.level, o.number, o.hour, true⟩⟩
  | none => s
def ackS (s : WS) (c : CV) : Bool × WS := if awaitsS s c then (true, ackO s c (getM s.m c.town)) else (false, s)
def openM (m : OM) : OM := m.filter fun p => !p.2.done
def openS (s : WS) : List Int := (openM s.m).map (·.1)
def dueOne (n : Nat) (h : Int) (p : Int × OV) : List CV :=
  if h < p.2.hour then [] else (List.range (min (((h - p.2.hour) / 3).toNat + 1) n)).map fun w : Nat => ⟨p.1, p.2.level, p.2.number, (w : Int)⟩
def dueS (s : WS) (h : Int) : List CV := (openM s.m).flatMap (dueOne s.n h)
/-- what holds of a post's state at any time -/
structure WOk (s : WS) : Prop where
  n1 : 1 ≤ s.n
  n16 : s.n ≤ 16
  sorted : SortedM s.m
  ok : ∀ p ∈ s.m, 0 ≤ p.1 ∧ p.1 < 40 ∧ 0 ≤ p.2.level ∧ p.2.level ≤ 3 ∧ 0 ≤ p.2.hour ∧ p.2.hour ≤ 16777216 ∧ 1 ≤ p.2.number ∧ p.2.number ≤ s.r
def newS (n : Nat) : WS := ⟨n, 0, []⟩
theorem newS_ok {n : Nat} (h1 : 1 ≤ n) (h2 : n ≤ 16) : WOk (newS n) := ⟨h1, h2, List.Pairwise.nil, fun p hp => by cases hp⟩
theorem mem_put {m : OM} {t : Int} {o : OV} {p : Int × OV} (h : p ∈ putM m t o) : p = (t, o) ∨ p ∈ m := by
  unfold putM at h
  rcases mem_insM.1 h with h | h
  · exact .inl h
  · exact .inr (List.mem_filter.1 h).1
theorem raise_ok {s : WS} (h : WOk s) (t l hr : Int) : WOk (raiseS s t l hr).2 := by
  unfold raiseS
  split
  · rename_i hok
    unfold okRaise at hok
    refine ⟨h.n1, h.n16, sorted_put h.sorted _ _, fun p hp => ?_⟩
    rcases mem_put hp with rfl | hp
    · simp only
      omega
    · have := h.ok p hp
      simp only
      omega
  · exact h
theorem ack_ok {s : WS} (h : WOk s) (c : CV) : WOk (ackS s c).2 := by
  unfold ackS
  split
  · cases hg : getM s.m c.town with
    | none => exact h
    | some o =>
      refine ⟨h.n1, h.n16, sorted_put h.sorted _ _, fun p hp => ?_⟩
      rcases mem_put hp with rfl | hp
      · have := h.ok _ (get_mem hg)
        exact this
      · exact h.ok p hp
  · exact h
theorem raise_r (s : WS) (t l hr : Int) : (raiseS s t l hr).2.r ≤ s.r + 1 := by
  unfold raiseS
  split
  · exact Nat.le_refl _
  · exact Nat.le_succ _
theorem raise_n (s : WS) (t l hr : Int) : (raiseS s t l hr).2.n = s.n := by
  unfold raiseS
  split <;> rfl
theorem ackO_r (s : WS) (c : CV) (o : Option OV) : (ackO s c o).r = s.r ∧ (ackO s c o).n = s.n := by cases o <;> exact ⟨rfl, rfl⟩
theorem ack_r (s : WS) (c : CV) : (ackS s c).2.r = s.r ∧ (ackS s c).2.n = s.n := by
  unfold ackS
  split
  · exact ackO_r s c _
  · exact ⟨rfl, rfl⟩
/-- at most forty towns -/
theorem rising_len : ∀ (l : List Int) (a b : Int), l.Pairwise (· < ·) → (∀ x ∈ l, a ≤ x ∧ x < b) → (l.length : Int) ≤ max 0 (b - a)
  | [], a, b, _, _ => by simp; omega
  | x :: l, a, b, hp, hb => by
    rw [List.pairwise_cons] at hp
    have h1 := rising_len l (x + 1) b hp.2 (fun y hy => ⟨by have := hp.1 y hy; omega, (hb y (by simp [hy])).2⟩)
    have h2 := hb x (by simp)
    simp only [List.length_cons]
    omega
theorem m_len {s : WS} (h : WOk s) : s.m.length ≤ 40 := by
  have h1 := rising_len (s.m.map (·.1)) 0 40 (by rw [List.pairwise_map]; exact h.sorted) (fun x hx => by
    obtain ⟨p, hp, rfl⟩ := List.mem_map.1 hx
    have := h.ok p hp
    omega)
  rw [List.length_map] at h1
  omega
theorem dueOne_len (n : Nat) (h : Int) (p : Int × OV) : (dueOne n h p).length ≤ n := by
  unfold dueOne
  split
  · simp
  · simp only [List.length_map, List.length_range]
    omega
end Go.Proofs.Ythijckdablkofaa
