/- Curves as plain lists of points: their value at a place, rounded down, is monotonic, bounded, follows an order of curves, and grows no faster than the place where no segment is steeper than one. Plain, no program. -/
import Derived.Lib.Hide
namespace Go.Proofs.Ytkoobkcmmfdlhaa
structure PointV where
  x : Int
  y : Int
def okPt (p : PointV) : Bool := decide (0 ≤ p.x) && decide (p.x ≤ 1125899906842624) && decide (0 ≤ p.y) && decide (p.y ≤ 1125899906842624)
def okAt (l : List PointV) (i : Nat) : Bool :=
  match l[i]? with
  | none => true
  | some p => okPt p && (if i = 0 then true else match l[i - 1]? with | none => true | some q => decide (q.x < p.x) && decide (q.y ≤ p.y))
/-- what curve.Right reports -/
def rightC (l : List PointV) : Bool := decide (1 ≤ l.length) && decide (l.length ≤ 32) && (List.range l.length).all (okAt l)
def Sorted : List PointV → Prop
  | [] => True
  | [_] => True
  | p :: q :: t => p.x < q.x ∧ p.y ≤ q.y ∧ Sorted (q :: t)
theorem rightC_at {l : List PointV} (h : rightC l = true) : 1 ≤ l.length ∧ l.length ≤ 32 ∧ ∀ i, i < l.length → okAt l i = true := by
  unfold rightC at h
  simp only [Bool.and_eq_true, decide_eq_true_eq, List.all_eq_true, List.mem_range] at h
  exact ⟨h.1.1, h.1.2, h.2⟩
theorem rightC_mk {l : List PointV} (h1 : 1 ≤ l.length) (h2 : l.length ≤ 32) (h3 : ∀ i, i < l.length → okAt l i = true) : rightC l = true := by
  unfold rightC
  simp only [Bool.and_eq_true, decide_eq_true_eq, List.all_eq_true, List.mem_range]
  exact ⟨⟨h1, h2⟩, h3⟩
theorem okAt_pt {l : List PointV} {i : Nat} {p : PointV} (hp : l[i]? = some p) (h : okAt l i = true) : 0 ≤ p.x ∧ p.x ≤ 1125899906842624 ∧ 0 ≤ p.y ∧ p.y ≤ 1125899906842624 := by
  unfold okAt at h
  rw [hp] at h
  simp only [Bool.and_eq_true] at h
  have := h.1
  unfold okPt at this
  simp only [Bool.and_eq_true, decide_eq_true_eq] at this
  omega
theorem okAt_step {l : List PointV} {i : Nat} {q p : PointV} (hq : l[i]? = some q) (hp : l[i + 1]? = some p) (h : okAt l (i + 1) = true) : q.x < p.x ∧ q.y ≤ p.y := by
  unfold okAt at h
  rw [hp] at h
  simp only [Nat.add_sub_cancel, hq, Nat.add_eq_zero_iff, Bool.and_eq_true] at h
  have := h.2
  rw [if_neg (by omega)] at this
  simpa using this
theorem sorted_of : ∀ (l : List PointV), (∀ i q p, l[i]? = some q → l[i + 1]? = some p → q.x < p.x ∧ q.y ≤ p.y) → Sorted l
  | [], _ => trivial
  | [_], _ => trivial
  | p :: q :: t, h => ⟨(h 0 p q rfl rfl).1, (h 0 p q rfl rfl).2, sorted_of (q :: t) fun i a b ha hb => h (i + 1) a b (by simpa using ha) (by simpa using hb)⟩
theorem rightC_sorted {l : List PointV} (h : rightC l = true) : Sorted l := by
  obtain ⟨_, _, h3⟩ := rightC_at h
  refine sorted_of l fun i q p hq hp => okAt_step hq hp (h3 _ ?_)
  exact (List.getElem?_eq_some_iff.1 hp).1
theorem rightC_pt {l : List PointV} (h : rightC l = true) {p : PointV} (hp : p ∈ l) : 0 ≤ p.x ∧ p.x ≤ 1125899906842624 ∧ 0 ≤ p.y ∧ p.y ≤ 1125899906842624 := by
  obtain ⟨i, hi⟩ := List.getElem?_of_mem hp
  exact okAt_pt hi ((rightC_at h).2.2 i (List.getElem?_eq_some_iff.1 hi).1)
/-- the value on a segment, and whether the exact one is greater -/
def interp (p q : PointV) (x : Int) : Int × Bool := (p.y + (x - p.x) * (q.y - p.y) / (q.x - p.x), decide (0 < (x - p.x) * (q.y - p.y) % (q.x - p.x)))
def valN : List PointV → Int → Int × Bool
  | [], _ => (0, false)
  | [p], _ => (p.y, false)
  | p :: q :: t, x => if q.x ≤ x then valN (q :: t) x else interp p q x
def value : List PointV → Int → Int × Bool
  | [], _ => (0, false)
  | p :: t, x => if x < p.x then (p.y, false) else valN (p :: t) x
/-- what curve.At returns -/
def atC (c : List PointV) (x : Int) : Int := if rightC c then (value c x).1 else 0
/-- what curve.Under reports -/
def underC (a b : List PointV) : Bool := rightC a && rightC b && a.all (fun p => decide (p.y ≤ (value b p.x).1)) && b.all (fun p => decide ((value a p.x).1 < p.y) || (decide ((value a p.x).1 = p.y) && !(value a p.x).2))
-- the walk's own way to the value
theorem sorted_lt : ∀ (l : List PointV) (i j : Nat) (p q : PointV), Sorted l → l[i]? = some p → l[j]? = some q → i < j → p.x < q.x
  | [], i, _, _, _, _, h, _, _ => by simp at h
  | [a], i, j, _, _, _, _, h, h2 => by
    have := (List.getElem?_eq_some_iff.1 h).1
    simp at this
    omega
  | a :: b :: t, 0, j + 1, p, q, hs, hp, hq, _ => by
    have e : a = p := by simpa using hp
    subst e
    have hq' : (b :: t)[j]? = some q := by simpa using hq
    match j with
    | 0 =>
      have e : b = q := by simpa using hq'
      subst e
      exact hs.1
    | j + 1 => exact Int.lt_trans hs.1 (sorted_lt (b :: t) 0 (j + 1) b q hs.2.2 rfl hq' (by omega))
  | a :: b :: t, i + 1, j + 1, p, q, hs, hp, hq, h => sorted_lt (b :: t) i j p q hs.2.2 (by simpa using hp) (by simpa using hq) (by omega)
  | _ :: _ :: _, _, 0, _, _, _, _, _, h => by omega
theorem val_first {c : List PointV} {p : PointV} {x : Int} (hp : c[0]? = some p) (hx : x < p.x) : value c x = (p.y, false) := by
  match c, hp with
  | q :: t, hp =>
    have e : q = p := by simpa using hp
    subst e
    show (if x < q.x then _ else _) = _
    rw [if_pos hx]
theorem valN_seg : ∀ (l : List PointV) (i : Nat) (p q : PointV) (x : Int), Sorted l → l[i]? = some p → l[i + 1]? = some q → p.x ≤ x → x < q.x → valN l x = interp p q x
  | [], _, _, _, _, _, h, _, _, _ => by simp at h
  | [a], _, _, _, _, _, _, h, _, _ => by simp at h
  | a :: b :: t, 0, p, q, x, _, hp, hq, _, h2 => by
    have e1 : a = p := by simpa using hp
    have e2 : b = q := by simpa using hq
    subst e1
    subst e2
    show (if b.x ≤ x then _ else _) = _
    rw [if_neg (by omega)]
  | a :: b :: t, i + 1, p, q, x, hs, hp, hq, h1, h2 => by
    have hp' : (b :: t)[i]? = some p := by simpa using hp
    have hb : b.x ≤ p.x := by
      match i, hp' with
      | 0, hp' =>
        have e : b = p := by simpa using hp'
        rw [e]
        exact Int.le_refl _
      | i + 1, hp' => exact Int.le_of_lt (sorted_lt (b :: t) 0 (i + 1) b p hs.2.2 rfl hp' (by omega))
    show (if b.x ≤ x then _ else _) = _
    rw [if_pos (by omega)]
    exact valN_seg (b :: t) i p q x hs.2.2 hp' (by simpa using hq) h1 h2
theorem valN_last : ∀ (l : List PointV) (p : PointV) (x : Int), Sorted l → l[l.length - 1]? = some p → p.x ≤ x → valN l x = (p.y, false)
  | [], _, _, _, h, _ => by simp at h
  | [a], p, x, _, h, _ => by
    have e : a = p := by simpa using h
    subst e
    rfl
  | a :: b :: t, p, x, hs, h, hx => by
    have h' : (b :: t)[(b :: t).length - 1]? = some p := by
      rw [← h]
      simp
    have hb : b.x ≤ p.x := by
      rcases Nat.eq_zero_or_pos t.length with h0 | h0
      · have e : t = [] := List.length_eq_zero_iff.1 h0
        subst e
        have e : b = p := by simpa using h'
        rw [e]
        exact Int.le_refl _
      · refine Int.le_of_lt (sorted_lt (b :: t) 0 ((b :: t).length - 1) b p hs.2.2 rfl h' ?_)
        simp
        omega
    show (if b.x ≤ x then _ else _) = _
    rw [if_pos (by omega)]
    exact valN_last (b :: t) p x hs.2.2 h' hx
theorem first_le {l : List PointV} {i : Nat} {p q : PointV} (hs : Sorted l) (hp : l[0]? = some p) (hq : l[i]? = some q) : p.x ≤ q.x := by
  match i, hq with
  | 0, hq =>
    rw [hp] at hq
    cases hq
    exact Int.le_refl _
  | i + 1, hq => exact Int.le_of_lt (sorted_lt l 0 (i + 1) p q hs hp hq (by omega))
theorem value_ge {c : List PointV} {p : PointV} {x : Int} (hp : c[0]? = some p) (hx : p.x ≤ x) : value c x = valN c x := by
  match c, hp with
  | q :: t, hp =>
    have e : q = p := by simpa using hp
    subst e
    show (if x < q.x then _ else _) = _
    rw [if_neg (by omega)]
theorem val_seg {c : List PointV} {i : Nat} {p q : PointV} {x : Int} (hs : Sorted c) (hp : c[i]? = some p) (hq : c[i + 1]? = some q) (h1 : p.x ≤ x) (h2 : x < q.x) : value c x = interp p q x := by
  match c, hp with
  | [], hp => simp at hp
  | a :: t, hp =>
    have := first_le hs (show (a :: t)[0]? = some a from rfl) hp
    rw [value_ge (c := a :: t) (p := a) rfl (by omega)]
    exact valN_seg _ i p q x hs hp hq h1 h2
theorem val_last {c : List PointV} {p : PointV} {x : Int} (hs : Sorted c) (hp : c[c.length - 1]? = some p) (h1 : p.x ≤ x) : value c x = (p.y, false) := by
  match c, hp with
  | [], hp => simp at hp
  | a :: t, hp =>
    have := first_le hs (show (a :: t)[0]? = some a from rfl) hp
    rw [value_ge (c := a :: t) (p := a) rfl (by omega)]
    exact valN_last _ p x hs hp h1
-- arithmetic of segments
theorem div_lip {m n d e : Int} (hd : 0 < d) (h1 : n ≤ m + e * d) : n / d ≤ m / d + e := by
  have h2 := Int.ediv_le_ediv hd h1
  rw [Int.add_mul_ediv_right _ _ (by omega)] at h2
  exact h2
theorem seg_lo {p q : PointV} {x : Int} (hx : p.x < q.x) (hy : p.y ≤ q.y) (h : p.x ≤ x) : p.y ≤ (interp p q x).1 := by
  show p.y ≤ p.y + _
  have := Int.ediv_nonneg (Int.mul_nonneg (show 0 ≤ x - p.x by omega) (show 0 ≤ q.y - p.y by omega)) (show 0 ≤ q.x - p.x by omega)
  omega
theorem seg_hi {p q : PointV} {x : Int} (hx : p.x < q.x) (hy : p.y ≤ q.y) (h : x ≤ q.x) : (interp p q x).1 ≤ q.y := by
  show p.y + _ ≤ q.y
  have h1 : (x - p.x) * (q.y - p.y) ≤ (q.y - p.y) * (q.x - p.x) := by
    rw [Int.mul_comm (q.y - p.y)]
    exact Int.mul_le_mul_of_nonneg_right (by omega) (by omega)
  have h2 := Int.ediv_le_ediv (show 0 < q.x - p.x by omega) h1
  rw [Int.mul_ediv_cancel _ (by omega)] at h2
  omega
theorem seg_mono {p q : PointV} {x y : Int} (hx : p.x < q.x) (hy : p.y ≤ q.y) (h : x ≤ y) : (interp p q x).1 ≤ (interp p q y).1 := by
  show p.y + _ ≤ p.y + _
  have h1 : (x - p.x) * (q.y - p.y) ≤ (y - p.x) * (q.y - p.y) := Int.mul_le_mul_of_nonneg_right (by omega) (by omega)
  have h2 := Int.ediv_le_ediv (show 0 < q.x - p.x by omega) h1
  omega
theorem seg_lip {p q : PointV} {x y : Int} (hx : p.x < q.x) (hs : q.y - p.y ≤ q.x - p.x) (h : x ≤ y) : (interp p q y).1 ≤ (interp p q x).1 + (y - x) := by
  show p.y + _ ≤ p.y + _ + _
  have h1 : (y - p.x) * (q.y - p.y) ≤ (x - p.x) * (q.y - p.y) + (y - x) * (q.x - p.x) := by
    have h2 : (y - p.x) * (q.y - p.y) = (x - p.x) * (q.y - p.y) + (y - x) * (q.y - p.y) := by rw [← Int.add_mul]; congr 1; omega
    rw [h2]
    have := Int.mul_le_mul_of_nonneg_left hs (show 0 ≤ y - x by omega)
    omega
  have := div_lip (show 0 < q.x - p.x by omega) h1
  omega
theorem seg_top {p q : PointV} (hx : p.x < q.x) : (interp p q q.x).1 = q.y := by
  show p.y + _ = q.y
  rw [Int.mul_comm, Int.mul_ediv_cancel _ (by omega)]
  omega
-- bounds and order
theorem valN_lo : ∀ (p : PointV) (t : List PointV) (x : Int), Sorted (p :: t) → p.x ≤ x → p.y ≤ (valN (p :: t) x).1
  | p, [], _, _, _ => Int.le_refl _
  | p, q :: t, x, hs, h => by
    show p.y ≤ (if q.x ≤ x then valN (q :: t) x else interp p q x).1
    split
    · next hq => exact Int.le_trans hs.2.1 (valN_lo q t x hs.2.2 hq)
    · exact seg_lo hs.1 hs.2.1 h
theorem valN_hi (M : Int) : ∀ (p : PointV) (t : List PointV) (x : Int), Sorted (p :: t) → (∀ q ∈ p :: t, q.y ≤ M) → (valN (p :: t) x).1 ≤ M
  | p, [], _, _, hM => hM p (by simp)
  | p, q :: t, x, hs, hM => by
    show (if q.x ≤ x then valN (q :: t) x else interp p q x).1 ≤ M
    split
    · exact valN_hi M q t x hs.2.2 fun r hr => hM r (List.mem_cons_of_mem _ hr)
    · next hq => exact Int.le_trans (seg_hi hs.1 hs.2.1 (by omega)) (hM q (by simp))
theorem valN_mono : ∀ (p : PointV) (t : List PointV) (x y : Int), Sorted (p :: t) → p.x ≤ x → x ≤ y → (valN (p :: t) x).1 ≤ (valN (p :: t) y).1
  | p, [], _, _, _, _, _ => Int.le_refl _
  | p, q :: t, x, y, hs, h, hxy => by
    show (if q.x ≤ x then valN (q :: t) x else interp p q x).1 ≤ (if q.x ≤ y then valN (q :: t) y else interp p q y).1
    by_cases h1 : q.x ≤ x
    · rw [if_pos h1, if_pos (by omega)]
      exact valN_mono q t x y hs.2.2 h1 hxy
    · rw [if_neg h1]
      by_cases h2 : q.x ≤ y
      · rw [if_pos h2]
        exact Int.le_trans (seg_hi hs.1 hs.2.1 (by omega)) (valN_lo q t y hs.2.2 h2)
      · rw [if_neg h2]
        exact seg_mono hs.1 hs.2.1 hxy
/-- no segment is steeper than one -/
def Gentle : List PointV → Prop
  | [] => True
  | [_] => True
  | p :: q :: t => q.y - p.y ≤ q.x - p.x ∧ Gentle (q :: t)
theorem gentle_of : ∀ (l : List PointV), (∀ i q p, l[i]? = some q → l[i + 1]? = some p → p.y - q.y ≤ p.x - q.x) → Gentle l
  | [], _ => trivial
  | [_], _ => trivial
  | p :: q :: t, h => ⟨h 0 p q rfl rfl, gentle_of (q :: t) fun i a b ha hb => h (i + 1) a b (by simpa using ha) (by simpa using hb)⟩
theorem valN_head : ∀ (p : PointV) (t : List PointV), Sorted (p :: t) → (valN (p :: t) p.x).1 = p.y
  | p, [], _ => rfl
  | p, q :: t, hs => by
    show (if q.x ≤ p.x then valN (q :: t) p.x else interp p q p.x).1 = p.y
    have := hs.1
    rw [if_neg (by omega)]
    show p.y + _ = _
    rw [Int.sub_self, Int.zero_mul, Int.zero_ediv, Int.add_zero]
theorem valN_lip : ∀ (p : PointV) (t : List PointV) (x y : Int), Sorted (p :: t) → Gentle (p :: t) → p.x ≤ x → x ≤ y → (valN (p :: t) y).1 ≤ (valN (p :: t) x).1 + (y - x)
  | p, [], x, y, _, _, _, h => by
    show p.y ≤ p.y + _
    omega
  | p, q :: t, x, y, hs, hg, h, hxy => by
    show (if q.x ≤ y then valN (q :: t) y else interp p q y).1 ≤ (if q.x ≤ x then valN (q :: t) x else interp p q x).1 + (y - x)
    by_cases h1 : q.x ≤ x
    · rw [if_pos h1, if_pos (by omega)]
      exact valN_lip q t x y hs.2.2 hg.2 h1 hxy
    · rw [if_neg h1]
      by_cases h2 : q.x ≤ y
      · rw [if_pos h2]
        have a1 := valN_lip q t q.x y hs.2.2 hg.2 (Int.le_refl _) h2
        rw [valN_head q t hs.2.2] at a1
        have a2 := seg_lip (x := x) (y := q.x) hs.1 hg.1 (by omega)
        rw [seg_top hs.1] at a2
        omega
      · rw [if_neg h2]
        exact seg_lip hs.1 hg.1 hxy
theorem value_mono {c : List PointV} (h : rightC c = true) {x y : Int} (hxy : x ≤ y) : (value c x).1 ≤ (value c y).1 := by
  match c, h with
  | [], h => exact Int.le_refl _
  | p :: t, h =>
    have hs := rightC_sorted h
    show (if x < p.x then (p.y, false) else valN (p :: t) x).1 ≤ (if y < p.x then (p.y, false) else valN (p :: t) y).1
    by_cases h1 : x < p.x
    · rw [if_pos h1]
      by_cases h2 : y < p.x
      · rw [if_pos h2]; exact Int.le_refl _
      · rw [if_neg h2]; exact valN_lo p t y hs (by omega)
    · rw [if_neg h1, if_neg (by omega)]
      exact valN_mono p t x y hs (by omega) hxy
theorem value_bd {c : List PointV} (h : rightC c = true) (x : Int) : 0 ≤ (value c x).1 ∧ (value c x).1 ≤ 1125899906842624 := by
  match c, h with
  | [], h => exact ⟨Int.le_refl 0, by show (0 : Int) ≤ _; decide⟩
  | p :: t, h =>
    have hs := rightC_sorted h
    have hp := rightC_pt h (p := p) (by simp)
    show 0 ≤ (if x < p.x then (p.y, false) else valN (p :: t) x).1 ∧ (if x < p.x then (p.y, false) else valN (p :: t) x).1 ≤ _
    by_cases h1 : x < p.x
    · rw [if_pos h1]; exact ⟨hp.2.2.1, hp.2.2.2⟩
    · rw [if_neg h1]
      exact ⟨Int.le_trans hp.2.2.1 (valN_lo p t x hs (by omega)), valN_hi _ p t x hs fun q hq => (rightC_pt h hq).2.2.2⟩
theorem value_lip {c : List PointV} (h : rightC c = true) (hg : Gentle c) {x y : Int} (hxy : x ≤ y) : (value c y).1 ≤ (value c x).1 + (y - x) := by
  match c, h with
  | [], h =>
    show (0 : Int) ≤ 0 + _
    omega
  | p :: t, h =>
    have hs := rightC_sorted h
    show (if y < p.x then (p.y, false) else valN (p :: t) y).1 ≤ (if x < p.x then (p.y, false) else valN (p :: t) x).1 + (y - x)
    by_cases h1 : x < p.x
    · rw [if_pos h1]
      by_cases h2 : y < p.x
      · rw [if_pos h2]
        show p.y ≤ p.y + _
        omega
      · rw [if_neg h2]
        have := valN_lip p t p.x y hs hg (Int.le_refl _) (by omega)
        rw [valN_head p t hs] at this
        show _ ≤ p.y + _
        omega
    · rw [if_neg h1, if_neg (by omega)]
      exact valN_lip p t x y hs hg (by omega) hxy
theorem atC_mono (c : List PointV) {x y : Int} (hxy : x ≤ y) : atC c x ≤ atC c y := by
  unfold atC
  split
  · next h => exact value_mono h hxy
  · exact Int.le_refl _
theorem atC_bd (c : List PointV) (x : Int) : 0 ≤ atC c x ∧ atC c x ≤ 1125899906842624 := by
  unfold atC
  split
  · next h => exact value_bd h x
  · exact ⟨by decide, by decide⟩
theorem atC_lip {c : List PointV} (hg : Gentle c) {x y : Int} (hxy : x ≤ y) : atC c y ≤ atC c x + (y - x) := by
  unfold atC
  split
  · next h => exact value_lip h hg hxy
  · omega
-- lines
/-- between u and v the exact value is the line (A + B t) / D -/
def Lin (c : List PointV) (u v A B D : Int) : Prop := 0 < D ∧ ∀ t, u ≤ t → t ≤ v → (value c t).1 * D ≤ A + B * t ∧ A + B * t < ((value c t).1 + 1) * D ∧ ((value c t).2 = false → A + B * t = (value c t).1 * D)
theorem lin_mk {y A D m : Int} {r : Int × Bool} (hD : 0 < D) (hA : A = y * D + m) (hr : r = (y + m / D, decide (0 < m % D))) : r.1 * D ≤ A ∧ A < (r.1 + 1) * D ∧ (r.2 = false → A = r.1 * D) := by
  subst hr
  subst hA
  have h1 := Int.emod_add_mul_ediv m D
  have h2 := Int.emod_nonneg m (show D ≠ 0 by omega)
  have h3 := Int.emod_lt_of_pos m hD
  have h4 : (y + m / D) * D = y * D + D * (m / D) := by rw [Int.add_mul, Int.mul_comm (m / D)]
  have h5 : (y + m / D + 1) * D = y * D + D * (m / D) + D := by rw [Int.add_mul, h4, Int.one_mul]
  dsimp only
  rw [h4, h5]
  generalize D * (m / D) = z at *
  generalize y * D = w at *
  refine ⟨by omega, by omega, fun h => ?_⟩
  have : ¬ 0 < m % D := by simpa using h
  omega
theorem lin_seg {c : List PointV} (hs : Sorted c) {i : Nat} {p q : PointV} (hp : c[i]? = some p) (hq : c[i + 1]? = some q) : Lin c p.x q.x (p.y * (q.x - p.x) - p.x * (q.y - p.y)) (q.y - p.y) (q.x - p.x) := by
  have hlt := sorted_lt c i (i + 1) p q hs hp hq (by omega)
  refine ⟨by omega, fun t h1 h2 => ?_⟩
  have e : p.y * (q.x - p.x) - p.x * (q.y - p.y) + (q.y - p.y) * t = p.y * (q.x - p.x) + (t - p.x) * (q.y - p.y) := by
    rw [Int.sub_mul t, Int.mul_comm (q.y - p.y) t]
    omega
  rcases Int.lt_or_eq_of_le h2 with h3 | h3
  · exact lin_mk (by omega) e (val_seg hs hp hq h1 h3)
  · have ev : value c q.x = (q.y, false) := by
      cases hr : c[i + 2]? with
      | none =>
        have hl : c.length - 1 = i + 1 := by
          have := List.getElem?_eq_none_iff.1 hr
          have := (List.getElem?_eq_some_iff.1 hq).1
          omega
        exact val_last hs (by rw [hl]; exact hq) (Int.le_refl _)
      | some r =>
        have := sorted_lt c (i + 1) (i + 2) q r hs hq hr (by omega)
        rw [val_seg hs hq hr (Int.le_refl _) this]
        unfold interp
        rw [Int.sub_self, Int.zero_mul, Int.zero_ediv, Int.add_zero, Int.zero_emod]
        rfl
    subst h3
    rw [ev, e]
    have e2 : p.y * (q.x - p.x) + (q.x - p.x) * (q.y - p.y) = q.y * (q.x - p.x) := by
      rw [Int.mul_comm (q.x - p.x) (q.y - p.y), ← Int.add_mul]
      congr 1
      omega
    rw [e2]
    dsimp only
    rw [Int.add_mul, Int.one_mul]
    omega
theorem lin_const {c : List PointV} {u v y : Int} (h : ∀ t, u ≤ t → t ≤ v → value c t = (y, false)) : Lin c u v y 0 1 :=
  ⟨by decide, fun t h1 h2 => by rw [h t h1 h2]; dsimp only; omega⟩
theorem value_own {c : List PointV} (h : rightC c = true) {p : PointV} (hp : p ∈ c) : value c p.x = (p.y, false) := by
  have hs := rightC_sorted h
  obtain ⟨i, hi⟩ := List.getElem?_of_mem hp
  cases hr : c[i + 1]? with
  | none =>
    have hl : c.length - 1 = i := by
      have := List.getElem?_eq_none_iff.1 hr
      have := (List.getElem?_eq_some_iff.1 hi).1
      omega
    exact val_last hs (by rw [hl]; exact hi) (Int.le_refl _)
  | some r =>
    have := sorted_lt c i (i + 1) p r hs hi hr (by omega)
    rw [val_seg hs hi hr (Int.le_refl _) this]
    unfold interp
    rw [Int.sub_self, Int.zero_mul, Int.zero_ediv, Int.add_zero, Int.zero_emod]
    rfl
/-- a place lies on a line whose ends are points, or far away -/
theorem lin_at {c : List PointV} (h : rightC c = true) (L : Int) {x : Int} (h1 : -L ≤ x) (h2 : x < L) :
    ∃ u v A B D, Lin c u v A B D ∧ u ≤ x ∧ x < v ∧ (u = -L ∨ ∃ p ∈ c, p.x = u) ∧ (v = L ∨ ∃ p ∈ c, p.x = v) := by
  have hs := rightC_sorted h
  have hn := (rightC_at h).1
  obtain ⟨p0, hp0⟩ : ∃ p, c[0]? = some p := ⟨_, List.getElem?_eq_getElem (by omega)⟩
  by_cases hx : x < p0.x
  · refine ⟨-L, p0.x, p0.y, 0, 1, lin_const (fun t _ ht => ?_), h1, hx, Or.inl rfl, Or.inr ⟨p0, List.mem_of_getElem? hp0, rfl⟩⟩
    rcases Int.lt_or_eq_of_le ht with h3 | h3
    · exact val_first hp0 h3
    · rw [h3]; exact value_own h (List.mem_of_getElem? hp0)
  · -- the last point at or before x
    have key : ∀ n, n ≤ c.length → 1 ≤ n → (∀ j p, j < n → c[j]? = some p → p.x ≤ x) ∨ ∃ i p q, i + 1 < n ∧ c[i]? = some p ∧ c[i + 1]? = some q ∧ p.x ≤ x ∧ x < q.x := by
      intro n
      induction n with
      | zero => intro _ h0; omega
      | succ n ih =>
        intro hle _
        rcases Nat.eq_zero_or_pos n with h0 | h0
        · subst h0
          refine Or.inl fun j p hj hp => ?_
          have : j = 0 := by omega
          subst this
          rw [hp0] at hp
          cases hp
          omega
        · rcases ih (by omega) h0 with h3 | ⟨i, p, q, a1, a2, a3, a4, a5⟩
          · obtain ⟨q, hq⟩ : ∃ p, c[n]? = some p := ⟨_, List.getElem?_eq_getElem (by omega)⟩
            by_cases hqx : q.x ≤ x
            · refine Or.inl fun j p hj hp => ?_
              rcases Nat.lt_or_eq_of_le (show j ≤ n by omega) with h4 | h4
              · exact h3 j p h4 hp
              · subst h4
                rw [hq] at hp
                cases hp
                exact hqx
            · obtain ⟨p, hp⟩ : ∃ p, c[n - 1]? = some p := ⟨_, List.getElem?_eq_getElem (by omega)⟩
              refine Or.inr ⟨n - 1, p, q, by omega, hp, ?_, h3 (n - 1) p (by omega) hp, by omega⟩
              rw [show n - 1 + 1 = n by omega]
              exact hq
          · exact Or.inr ⟨i, p, q, by omega, a2, a3, a4, a5⟩
    rcases key c.length (Nat.le_refl _) hn with h3 | ⟨i, p, q, _, hp, hq, h4, h5⟩
    · obtain ⟨p, hp⟩ : ∃ p, c[c.length - 1]? = some p := ⟨_, List.getElem?_eq_getElem (by omega)⟩
      exact ⟨p.x, L, p.y, 0, 1, lin_const (fun t ht _ => val_last hs hp ht), h3 _ p (by omega) hp, h2, Or.inr ⟨p, List.mem_of_getElem? hp, rfl⟩, Or.inl rfl⟩
    · exact ⟨p.x, q.x, _, _, _, lin_seg hs hp hq, h4, h5, Or.inr ⟨p, List.mem_of_getElem? hp, rfl⟩, Or.inr ⟨q, List.mem_of_getElem? hq, rfl⟩⟩
/-- the order of the exact values at a place -/
def LeAt (a b : List PointV) (t : Int) : Prop := ∀ u v A B D u' v' A' B' D', Lin a u v A B D → Lin b u' v' A' B' D' → u ≤ t → t ≤ v → u' ≤ t → t ≤ v' → (A + B * t) * D' ≤ (A' + B' * t) * D
theorem leAt_of {a b : List PointV} {t : Int} (h : ((value a t).2 = false ∧ (value a t).1 ≤ (value b t).1) ∨ (value a t).1 < (value b t).1) : LeAt a b t := by
  intro u v A B D u' v' A' B' D' ⟨hD, hl⟩ ⟨hD', hl'⟩ h1 h2 h3 h4
  obtain ⟨_, a2, a3⟩ := hl t h1 h2
  obtain ⟨b1, _, _⟩ := hl' t h3 h4
  have k : A + B * t ≤ (value b t).1 * D := by
    rcases h with ⟨h5, h6⟩ | h5
    · rw [a3 h5]
      exact Int.mul_le_mul_of_nonneg_right h6 (by omega)
    · have := Int.mul_le_mul_of_nonneg_right (show (value a t).1 + 1 ≤ (value b t).1 by omega) (show 0 ≤ D by omega)
      omega
  have k1 := Int.mul_le_mul_of_nonneg_right k (show 0 ≤ D' by omega)
  have k2 := Int.mul_le_mul_of_nonneg_right b1 (show 0 ≤ D by omega)
  have e : (value b t).1 * D * D' = (value b t).1 * D' * D := by rw [Int.mul_assoc, Int.mul_comm D D', ← Int.mul_assoc]
  omega
theorem cross {a b u v x : Int} (hu : u ≤ x) (hv : x < v) (h1 : 0 ≤ a + b * u) (h2 : 0 ≤ a + b * v) : 0 ≤ a + b * x := by
  rcases Int.le_total 0 b with hb | hb
  · have := Int.mul_le_mul_of_nonneg_left hu hb
    omega
  · have := Int.mul_le_mul_of_nonpos_left hb (show x ≤ v by omega)
    omega
theorem under_value {a b : List PointV} (h : underC a b = true) (x : Int) : (value a x).1 ≤ (value b x).1 := by
  unfold underC at h
  simp only [Bool.and_eq_true, List.all_eq_true, decide_eq_true_eq, Bool.or_eq_true, Bool.not_eq_true'] at h
  obtain ⟨⟨⟨ha, hb⟩, hA⟩, hB⟩ := h
  have pa : ∀ p ∈ a, LeAt a b p.x := fun p hp => leAt_of (Or.inl (by rw [value_own ha hp]; exact ⟨rfl, hA p hp⟩))
  have pb : ∀ p ∈ b, LeAt a b p.x := fun p hp => leAt_of (by
    have e := value_own hb hp
    rw [e]
    rcases hB p hp with h1 | ⟨h1, h2⟩
    · exact Or.inr h1
    · exact Or.inl ⟨h2, by rw [h1]; exact Int.le_refl _⟩)
  obtain ⟨L, hL, hxl, hxr⟩ : ∃ L : Int, 1125899906842624 < L ∧ -L ≤ x ∧ x < L := ⟨1125899906842624 + 1 + x.natAbs, by omega, by omega, by omega⟩
  have far : ∀ t, (t = -L ∨ t = L) → LeAt a b t := by
    intro t ht
    have hna := (rightC_at ha).1
    have hnb := (rightC_at hb).1
    have hsa := rightC_sorted ha
    have hsb := rightC_sorted hb
    rcases ht with rfl | rfl
    · obtain ⟨p, hp⟩ : ∃ p, a[0]? = some p := ⟨_, List.getElem?_eq_getElem (by omega)⟩
      obtain ⟨q, hq⟩ : ∃ p, b[0]? = some p := ⟨_, List.getElem?_eq_getElem (by omega)⟩
      have p1 := rightC_pt ha (List.mem_of_getElem? hp)
      have q1 := rightC_pt hb (List.mem_of_getElem? hq)
      refine leAt_of (Or.inl ?_)
      rw [val_first hp (show -L < p.x by omega), val_first hq (show -L < q.x by omega)]
      refine ⟨rfl, ?_⟩
      show p.y ≤ q.y
      by_cases hle : p.x ≤ q.x
      · have h1 : (value a p.x).1 ≤ (value a q.x).1 := value_mono ha hle
        rw [value_own ha (List.mem_of_getElem? hp)] at h1
        rcases hB q (List.mem_of_getElem? hq) with h2 | ⟨h2, _⟩
        · have : p.y ≤ (value a q.x).1 := h1
          omega
        · have : p.y ≤ (value a q.x).1 := h1
          omega
      · have h1 : value a q.x = (p.y, false) := val_first hp (by omega)
        rcases hB q (List.mem_of_getElem? hq) with h2 | ⟨h2, _⟩
        · rw [h1] at h2
          have : p.y < q.y := h2
          omega
        · rw [h1] at h2
          have : p.y = q.y := h2
          omega
    · obtain ⟨p, hp⟩ : ∃ p, a[a.length - 1]? = some p := ⟨_, List.getElem?_eq_getElem (by omega)⟩
      obtain ⟨q, hq⟩ : ∃ p, b[b.length - 1]? = some p := ⟨_, List.getElem?_eq_getElem (by omega)⟩
      have p1 := rightC_pt ha (List.mem_of_getElem? hp)
      have q1 := rightC_pt hb (List.mem_of_getElem? hq)
      refine leAt_of (Or.inl ?_)
      rw [val_last hsa hp (show p.x ≤ t by omega), val_last hsb hq (show q.x ≤ t by omega)]
      refine ⟨rfl, ?_⟩
      show p.y ≤ q.y
      have h1 := hA p (List.mem_of_getElem? hp)
      have h2 : (value b p.x).1 ≤ (value b t).1 := value_mono hb (by omega)
      rw [val_last hsb hq (show q.x ≤ t by omega)] at h2
      exact Int.le_trans h1 h2
  obtain ⟨u, v, A, B, D, hl, hu, hv, eu, ev⟩ := lin_at ha L hxl hxr
  obtain ⟨u', v', A', B', D', hl', hu', hv', eu', ev'⟩ := lin_at hb L hxl hxr
  have anyA : ∀ t, (t = -L ∨ t = L ∨ ∃ p ∈ a, p.x = t) → LeAt a b t := by
    rintro t (h1 | h1 | ⟨p, hp, h1⟩)
    · exact far t (Or.inl h1)
    · exact far t (Or.inr h1)
    · rw [← h1]; exact pa p hp
  have anyB : ∀ t, (t = -L ∨ t = L ∨ ∃ p ∈ b, p.x = t) → LeAt a b t := by
    rintro t (h1 | h1 | ⟨p, hp, h1⟩)
    · exact far t (Or.inl h1)
    · exact far t (Or.inr h1)
    · rw [← h1]; exact pb p hp
  have Lu : LeAt a b u := anyA u (eu.elim Or.inl (fun h => Or.inr (Or.inr h)))
  have Lv : LeAt a b v := anyA v (Or.inr ev)
  have Lu' : LeAt a b u' := anyB u' (eu'.elim Or.inl (fun h => Or.inr (Or.inr h)))
  have Lv' : LeAt a b v' := anyB v' (Or.inr ev')
  have lo : ∃ s, s ≤ x ∧ u ≤ s ∧ u' ≤ s ∧ LeAt a b s := by
    rcases Int.le_total u u' with h1 | h1
    · exact ⟨u', hu', h1, Int.le_refl _, Lu'⟩
    · exact ⟨u, hu, Int.le_refl _, h1, Lu⟩
  have hi : ∃ s, x < s ∧ s ≤ v ∧ s ≤ v' ∧ LeAt a b s := by
    rcases Int.le_total v v' with h1 | h1
    · exact ⟨v, hv, Int.le_refl _, h1, Lv⟩
    · exact ⟨v', hv', h1, Int.le_refl _, Lv'⟩
  obtain ⟨s, hs1, hs2, hs3, hs4⟩ := lo
  obtain ⟨r, hr1, hr2, hr3, hr4⟩ := hi
  have g1 := hs4 u v A B D u' v' A' B' D' hl hl' hs2 (by omega) hs3 (by omega)
  have g2 := hr4 u v A B D u' v' A' B' D' hl hl' (by omega) hr2 (by omega) hr3
  have form : ∀ t : Int, (A' + B' * t) * D - (A + B * t) * D' = (A' * D - A * D') + (B' * D - B * D') * t := by
    intro t
    rw [Int.add_mul, Int.add_mul, Int.sub_mul, Int.mul_right_comm B' t D, Int.mul_right_comm B t D']
    omega
  have g3 := cross hs1 hr1 (by rw [← form]; omega) (by rw [← form]; omega)
  rw [← form] at g3
  obtain ⟨hD, f1⟩ := hl
  obtain ⟨hD', f2⟩ := hl'
  have k1 := (f1 x hu (by omega)).1
  have k2 := (f2 x hu' (by omega)).2.1
  have m1 := Int.mul_le_mul_of_nonneg_right k1 (show 0 ≤ D' by omega)
  have m2 := Int.mul_lt_mul_of_pos_right k2 hD
  have e : ((value b x).1 + 1) * D' * D = ((value b x).1 + 1) * D * D' := by rw [Int.mul_assoc, Int.mul_comm D' D, ← Int.mul_assoc]
  have m3 : (value a x).1 * D * D' < ((value b x).1 + 1) * D * D' := by omega
  have m4 := Int.lt_of_mul_lt_mul_right m3 (show 0 ≤ D' by omega)
  have m5 := Int.lt_of_mul_lt_mul_right m4 (show 0 ≤ D by omega)
  omega
theorem under_right {a b : List PointV} (h : underC a b = true) : rightC a = true ∧ rightC b = true := by
  unfold underC at h
  simp only [Bool.and_eq_true] at h
  exact ⟨h.1.1.1, h.1.1.2⟩
theorem under_at {a b : List PointV} (h : underC a b = true) (x : Int) : atC a x ≤ atC b x := by
  unfold atC
  rw [if_pos (under_right h).1, if_pos (under_right h).2]
  exact under_value h x
end Go.Proofs.Ytkoobkcmmfdlhaa
