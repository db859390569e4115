/- Texts merged: VLaw ULaw WLaw UExact -/
import Derived.Lib.Hide
import Derived.WalkKit
import Derived.IntWalk
import Derived.WalkSpells
import Derived.Test.YtepidpegoihllaaGreatDoorProg
/- Curves as plain lists of points: their value at a place, rounded down, is monotonic, bounded, follows an order of curves, and grows no faster than the place where no segment is steeper than one. Plain, no program. -/
namespace Go.Proofs.YtepidpegoihllaaGreatDoor
structure PointV where
  x : Int
  y : Int
def okPt (p : PointV) : Bool := decide (0 ≤ p.x) && decide (p.x ≤ 1125899906842624) && decide (0 ≤ p.y) && decide (p.y ≤ 1125899906842624)
def okAt (l : List PointV) (i : Nat) : Bool :=
  match l[i]? with
  | none => true
  | some p => okPt p && (if i = 0 then true else match l[i - 1]? with | none => true | some q => decide (q.x < p.x) && decide (q.y ≤ p.y))
/-- what curve.Right reports -/
def rightC (l : List PointV) : Bool := decide (1 ≤ l.length) && decide (l.length ≤ 32) && (List.range l.length).all (okAt l)
def Sorted : List PointV → Prop
  | [] => True
  | [_] => True
  | p :: q :: t => p.x < q.x ∧ p.y ≤ q.y ∧ Sorted (q :: t)
theorem rightC_at {l : List PointV} (h : rightC l = true) : 1 ≤ l.length ∧ l.length ≤ 32 ∧ ∀ i, i < l.length → okAt l i = true := by
  unfold rightC at h
  simp only [Bool.and_eq_true, decide_eq_true_eq, List.all_eq_true, List.mem_range] at h
  exact ⟨h.1.1, h.1.2, h.2⟩
theorem rightC_mk {l : List PointV} (h1 : 1 ≤ l.length) (h2 : l.length ≤ 32) (h3 : ∀ i, i < l.length → okAt l i = true) : rightC l = true := by
  unfold rightC
  simp only [Bool.and_eq_true, decide_eq_true_eq, List.all_eq_true, List.mem_range]
  exact ⟨⟨h1, h2⟩, h3⟩
theorem okAt_pt {l : List PointV} {i : Nat} {p : PointV} (hp : l[i]? = some p) (h : okAt l i = true) : 0 ≤ p.x ∧ p.x ≤ 1125899906842624 ∧ 0 ≤ p.y ∧ p.y ≤ 1125899906842624 := by
  unfold okAt at h
  rw [hp] at h
  simp only [Bool.and_eq_true] at h
  have := h.1
  unfold okPt at this
  simp only [Bool.and_eq_true, decide_eq_true_eq] at this
  omega
theorem okAt_step {l : List PointV} {i : Nat} {q p : PointV} (hq : l[i]? = some q) (hp : l[i + 1]? = some p) (h : okAt l (i + 1) = true) : q.x < p.x ∧ q.y ≤ p.y := by
  unfold okAt at h
  rw [hp] at h
  simp only [Nat.add_sub_cancel, hq, Nat.add_eq_zero_iff, Bool.and_eq_true] at h
  have := h.2
  rw [if_neg (by omega)] at this
  simpa using this
theorem sorted_of : ∀ (l : List PointV), (∀ i q p, l[i]? = some q → l[i + 1]? = some p → q.x < p.x ∧ q.y ≤ p.y) → Sorted l
  | [], _ => trivial
  | [_], _ => trivial
  | p :: q :: t, h => ⟨(h 0 p q rfl rfl).1, (h 0 p q rfl rfl).2, sorted_of (q :: t) fun i a b ha hb => h (i + 1) a b (by simpa using ha) (by simpa using hb)⟩
theorem rightC_sorted {l : List PointV} (h : rightC l = true) : Sorted l := by
  obtain ⟨_, _, h3⟩ := rightC_at h
  refine sorted_of l fun i q p hq hp => okAt_step hq hp (h3 _ ?_)
  exact (List.getElem?_eq_some_iff.1 hp).1
theorem rightC_pt {l : List PointV} (h : rightC l = true) {p : PointV} (hp : p ∈ l) : 0 ≤ p.x ∧ p.x ≤ 1125899906842624 ∧ 0 ≤ p.y ∧ p.y ≤ 1125899906842624 := by
  obtain ⟨i, hi⟩ := List.getElem?_of_mem hp
  exact okAt_pt hi ((rightC_at h).2.2 i (List.getElem?_eq_some_iff.1 hi).1)
/-- the value on a segment, and whether the exact one is greater -/
def interp (p q : PointV) (x : Int) : Int × Bool := (p.y + (x - p.x) * (q.y - p.y) / (q.x - p.x), decide (0 < (x - p.x) * (q.y - p.y) % (q.x - p.x)))
def valN : List PointV → Int → Int × Bool
  | [], _ => (0, false)
  | [p], _ => (p.y, false)
  | p :: q :: t, x => if q.x ≤ x then valN (q :: t) x else interp p q x
def value : List PointV → Int → Int × Bool
  | [], _ => (0, false)
  | p :: t, x => if x < p.x then (p.y, false) else valN (p :: t) x
/-- what curve.Under reports -/
def underC (a b : List PointV) : Bool := rightC a && rightC b && a.all (fun p => decide (p.y ≤ (value b p.x).1)) && b.all (fun p => decide ((value a p.x).1 < p.y) || (decide ((value a p.x).1 = p.y) && !(value a p.x).2))
-- the walk's own way to the value
theorem sorted_lt : ∀ (l : List PointV) (i j : Nat) (p q : PointV), Sorted l → l[i]? = some p → l[j]? = some q → i < j → p.x < q.x
  | [], i, _, _, _, _, h, _, _ => by simp at h
  | [a], i, j, _, _, _, _, h, h2 => by
    have := (List.getElem?_eq_some_iff.1 h).1
    simp at this
    omega
  | a :: b :: t, 0, j + 1, p, q, hs, hp, hq, _ => by
    have e : a = p := by simpa using hp
    subst e
    have hq' : (b :: t)[j]? = some q := by simpa using hq
    match j with
    | 0 =>
      have e : b = q := by simpa using hq'
      subst e
      exact hs.1
    | j + 1 => exact Int.lt_trans hs.1 (sorted_lt (b :: t) 0 (j + 1) b q hs.2.2 rfl hq' (by omega))
  | a :: b :: t, i + 1, j + 1, p, q, hs, hp, hq, h => sorted_lt (b :: t) i j p q hs.2.2 (by simpa using hp) (by simpa using hq) (by omega)
  | _ :: _ :: _, _, 0, _, _, _, _, _, h => by omega
theorem val_first {c : List PointV} {p : PointV} {x : Int} (hp : c[0]? = some p) (hx : x < p.x) : value c x = (p.y, false) := by
  match c, hp with
  | q :: t, hp =>
    have e : q = p := by simpa using hp
    subst e
    show (if x < q.x then _ else _) = _
    rw [if_pos hx]
theorem valN_seg : ∀ (l : List PointV) (i : Nat) (p q : PointV) (x : Int), Sorted l → l[i]? = some p → l[i + 1]? = some q → p.x ≤ x → x < q.x → valN l x = interp p q x
  | [], _, _, _, _, _, h, _, _, _ => by simp at h
  | [a], _, _, _, _, _, _, h, _, _ => by simp at h
  | a :: b :: t, 0, p, q, x, _, hp, hq, _, h2 => by
    have e1 : a = p := by simpa using hp
    have e2 : b = q := by simpa using hq
    subst e1
    subst e2
    show (if b.x ≤ x then _ else _) = _
    rw [if_neg (by omega)]
  | a :: b :: t, i + 1, p, q, x, hs, hp, hq, h1, h2 => by
    have hp' : (b :: t)[i]? = some p := by simpa using hp
    have hb : b.x ≤ p.x := by
      match i, hp' with
      | 0, hp' =>
        have e : b = p := by simpa using hp'
        rw [e]
        exact Int.le_refl _
      | i + 1, hp' => exact Int.le_of_lt (sorted_lt (b :: t) 0 (i + 1) b p hs.2.2 rfl hp' (by omega))
    show (if b.x ≤ x then _ else _) = _
    rw [if_pos (by omega)]
    exact valN_seg (b :: t) i p q x hs.2.2 hp' (by simpa using hq) h1 h2
theorem valN_last : ∀ (l : List PointV) (p : PointV) (x : Int), Sorted l → l[l.length - 1]? = some p → p.x ≤ x → valN l x = (p.y, false)
  | [], _, _, _, h, _ => by simp at h
  | [a], p, x, _, h, _ => by
    have e : a = p := by simpa using h
    subst e
    rfl
  | a :: b :: t, p, x, hs, h, hx => by
    have h' : (b :: t)[(b :: t).length - 1]? = some p := by
      rw [← h]
      simp
    have hb : b.x ≤ p.x := by
      rcases Nat.eq_zero_or_pos t.length with h0 | h0
      · have e : t = [] := List.length_eq_zero_iff.1 h0
        subst e
        have e : b = p := by simpa using h'
        rw [e]
        exact Int.le_refl _
      · refine Int.le_of_lt (sorted_lt (b :: t) 0 ((b :: t).length - 1) b p hs.2.2 rfl h' ?_)
        simp
        omega
    show (if b.x ≤ x then _ else _) = _
    rw [if_pos (by omega)]
    exact valN_last (b :: t) p x hs.2.2 h' hx
theorem first_le {l : List PointV} {i : Nat} {p q : PointV} (hs : Sorted l) (hp : l[0]? = some p) (hq : l[i]? = some q) : p.x ≤ q.x := by
  match i, hq with
  | 0, hq =>
    rw [hp] at hq
    cases hq
    exact Int.le_refl _
  | i + 1, hq => exact Int.le_of_lt (sorted_lt l 0 (i + 1) p q hs hp hq (by omega))
theorem value_ge {c : List PointV} {p : PointV} {x : Int} (hp : c[0]? = some p) (hx : p.x ≤ x) : value c x = valN c x := by
  match c, hp with
  | q :: t, hp =>
    have e : q = p := by simpa using hp
    subst e
    show (if x < q.x then _ else _) = _
    rw [if_neg (by omega)]
theorem val_seg {c : List PointV} {i : Nat} {p q : PointV} {x : Int} (hs : Sorted c) (hp : c[i]? = some p) (hq : c[i + 1]? = some q) (h1 : p.x ≤ x) (h2 : x < q.x) : value c x = interp p q x := by
  match c, hp with
  | [], hp => simp at hp
  | a :: t, hp =>
    have := first_le hs (show (a :: t)[0]? = some a from rfl) hp
    rw [value_ge (c := a :: t) (p := a) rfl (by omega)]
    exact valN_seg _ i p q x hs hp hq h1 h2
theorem val_last {c : List PointV} {p : PointV} {x : Int} (hs : Sorted c) (hp : c[c.length - 1]? = some p) (h1 : p.x ≤ x) : value c x = (p.y, false) := by
  match c, hp with
  | [], hp => simp at hp
  | a :: t, hp =>
    have := first_le hs (show (a :: t)[0]? = some a from rfl) hp
    rw [value_ge (c := a :: t) (p := a) rfl (by omega)]
    exact valN_last _ p x hs hp h1
-- arithmetic of segments
theorem seg_hi {p q : PointV} {x : Int} (hx : p.x < q.x) (hy : p.y ≤ q.y) (h : x ≤ q.x) : (interp p q x).1 ≤ q.y := by
  show p.y + _ ≤ q.y
  have h1 : (x - p.x) * (q.y - p.y) ≤ (q.y - p.y) * (q.x - p.x) := by
    rw [Int.mul_comm (q.y - p.y)]
    exact Int.mul_le_mul_of_nonneg_right (by omega) (by omega)
  have h2 := Int.ediv_le_ediv (show 0 < q.x - p.x by omega) h1
  rw [Int.mul_ediv_cancel _ (by omega)] at h2
  omega
/-- no segment is steeper than one -/
def Gentle : List PointV → Prop
  | [] => True
  | [_] => True
  | p :: q :: t => q.y - p.y ≤ q.x - p.x ∧ Gentle (q :: t)
theorem gentle_of : ∀ (l : List PointV), (∀ i q p, l[i]? = some q → l[i + 1]? = some p → p.y - q.y ≤ p.x - q.x) → Gentle l
  | [], _ => trivial
  | [_], _ => trivial
  | p :: q :: t, h => ⟨h 0 p q rfl rfl, gentle_of (q :: t) fun i a b ha hb => h (i + 1) a b (by simpa using ha) (by simpa using hb)⟩
end Go.Proofs.YtepidpegoihllaaGreatDoor
/- Gates as plain numbers: Scale, the limited sums, Ask, Move, Drift and Bounds, and their laws. Plain, no program. -/
namespace Go.Proofs.YtepidpegoihllaaGreatDoor
/-- what exact.Scale returns -/
def scaleOk (a n d : Int) : Bool := decide (0 ≤ a) && decide (a ≤ 1125899906842624) && decide (0 ≤ n) && decide (n ≤ 1125899906842624) && decide (1 ≤ d) && decide (d ≤ 1125899906842624) && decide (a * n / d ≤ 1125899906842624)
def scaleQ (a n d : Int) : Int := if scaleOk a n d then a * n / d else 0
def scaleM (a n d : Int) : Int := if scaleOk a n d then a * n % d else 0
theorem scaleOk_iff {a n d : Int} : scaleOk a n d = true ↔ 0 ≤ a ∧ a ≤ 1125899906842624 ∧ 0 ≤ n ∧ n ≤ 1125899906842624 ∧ 1 ≤ d ∧ d ≤ 1125899906842624 ∧ a * n / d ≤ 1125899906842624 := by
  unfold scaleOk
  simp only [Bool.and_eq_true, decide_eq_true_eq]
  omega
theorem scaleQ_bd (a n d : Int) : 0 ≤ scaleQ a n d ∧ scaleQ a n d ≤ 1125899906842624 := by
  unfold scaleQ
  split
  · next h =>
    obtain ⟨h1, _, h3, _, h5, _, h7⟩ := scaleOk_iff.1 h
    exact ⟨Int.ediv_nonneg (Int.mul_nonneg h1 h3) (by omega), h7⟩
  · exact ⟨by decide, by decide⟩
/-- limited sums -/
def addS (a b : Int) : Int := if 9223372036854775807 < a + b then 9223372036854775807 else if a + b < -9223372036854775808 then -9223372036854775808 else a + b
theorem addS_in {a b : Int} (h1 : -9223372036854775808 ≤ a + b) (h2 : a + b ≤ 9223372036854775807) : addS a b = a + b := by unfold addS; rw [if_neg (by omega), if_neg (by omega)]
theorem addS_bd (a b : Int) : -9223372036854775808 ≤ addS a b ∧ addS a b ≤ 9223372036854775807 := by unfold addS; split <;> (try split) <;> omega
structure BandV where
  lo : List PointV
  hi : List PointV
structure LinkV where
  name : ByteArray
  kind : Int
  src : Int
  dst : Int
  rate : List PointV
  band : BandV
  positions : Int
  speed : Int
  leak : Int
  crest : Int
  num : Int
  den : Int
  prime : Int
  brk : Int
  backNum : Int
  backDen : Int
  delay : Int
structure GateV where
  pos : Int
  target : Int
  stuck : Bool
  opened : Bool
end Go.Proofs.YtepidpegoihllaaGreatDoor
/- The encodings of package wire as plain functions on lists of bytes, and their laws. No program in this text. -/

namespace Go.Proofs.YtepidpegoihllaaGreatDoor
/-- the bytes of a number, the lowest first, without zeros at the end -/
def lebL (m : Nat) : List UInt8 := if m = 0 then [] else UInt8.ofNat (m % 256) :: lebL (m / 256)
termination_by m
decreasing_by omega
/-- the number of bytes, the lowest first -/
def valL : List UInt8 → Nat
  | [] => 0
  | b :: l => b.toNat + 256 * valL l
theorem leb_zero : lebL 0 = [] := by unfold lebL; rfl
theorem leb_pos {m : Nat} (h : m ≠ 0) : lebL m = UInt8.ofNat (m % 256) :: lebL (m / 256) := by rw [lebL, if_neg h]
theorem ofNat_toNat (k : Nat) (h : k < 256) : (UInt8.ofNat k).toNat = k := by simp [UInt8.toNat_ofNat']; omega
theorem val_leb (m : Nat) : valL (lebL m) = m := by
  induction m using Nat.strongRecOn with
  | _ m ih =>
    by_cases h : m = 0
    · subst h; rw [leb_zero]; rfl
    · rw [leb_pos h, valL, ih (m / 256) (by omega), ofNat_toNat _ (by omega)]
      omega
theorem val_lt (l : List UInt8) : valL l < 256 ^ l.length := by
  induction l with
  | nil => simp [valL]
  | cons x l ih =>
    have := x.toNat_lt
    simp only [valL, List.length_cons, Nat.pow_succ]
    omega
theorem leb_len_le {m k : Nat} (h : m < 256 ^ k) : (lebL m).length ≤ k := by
  induction k generalizing m with
  | zero => simp at h; subst h; rw [leb_zero]; simp
  | succ k ih =>
    by_cases h0 : m = 0
    · subst h0; rw [leb_zero]; simp
    · rw [leb_pos h0, List.length_cons]
      have : m / 256 < 256 ^ k := by rw [Nat.pow_succ] at h; omega
      have := ih this
      omega
theorem leb_len8 {m : Nat} (h : m < 18446744073709551616) : (lebL m).length ≤ 8 := leb_len_le (by simpa using h)
/-- bytes whose last is not zero are those of their number -/
theorem leb_val (l : List UInt8) (h : ∀ b, l.getLast? = some b → b ≠ 0) : lebL (valL l) = l := by
  induction l with
  | nil => rw [valL, leb_zero]
  | cons x l ih =>
    have hx := x.toNat_lt
    by_cases hl : l = []
    · subst hl
      have hx0 : x ≠ 0 := h x (by simp)
      have hn : x.toNat ≠ 0 := fun e => hx0 (UInt8.toNat_inj.1 (by rw [e]; rfl))
      simp only [valL, Nat.mul_zero, Nat.add_zero]
      rw [leb_pos hn]
      have : x.toNat / 256 = 0 := by omega
      rw [this, leb_zero, Nat.mod_eq_of_lt hx]
      simp
    · have ih' := ih (fun b hb => h b (by rw [List.getLast?_cons]; rw [hb]; rfl))
      have hv : valL l ≠ 0 := by
        intro e
        rw [e, leb_zero] at ih'
        exact hl ih'.symm
      have e1 : (x.toNat + 256 * valL l) % 256 = x.toNat := by omega
      have e2 : (x.toNat + 256 * valL l) / 256 = valL l := by omega
      rw [valL, leb_pos (by omega), e1, e2, ih']
      simp
theorem leb_last (m : Nat) : ∀ b, (lebL m).getLast? = some b → b ≠ 0 := by
  induction m using Nat.strongRecOn with
  | _ m ih =>
    intro b hb
    by_cases h : m = 0
    · subst h; rw [leb_zero] at hb; simp at hb
    · rw [leb_pos h, List.getLast?_cons] at hb
      by_cases h2 : m / 256 = 0
      · rw [h2, leb_zero] at hb
        simp only [List.getLast?_nil, Option.getD_none, Option.some.injEq] at hb
        subst hb
        intro e
        have := congrArg UInt8.toNat e
        rw [ofNat_toNat _ (by omega)] at this
        have h3 : (0 : UInt8).toNat = 0 := rfl
        omega
      · cases hq : (lebL (m / 256)).getLast? with
        | none =>
          rw [List.getLast?_eq_none_iff] at hq
          have := val_leb (m / 256)
          rw [hq] at this
          exact absurd this.symm h2
        | some c =>
          rw [hq] at hb
          simp only [Option.getD_some, Option.some.injEq] at hb
          subst hb
          exact ih (m / 256) (by omega) c hq
/-- the encoding of an integer -/
def intL (n : Int) : List UInt8 :=
  if 0 ≤ n then UInt8.ofNat (128 + (lebL n.toNat).length) :: (lebL n.toNat).reverse
  else UInt8.ofNat (127 - (lebL (-(n + 1)).toNat).length) :: ((lebL (-(n + 1)).toNat).map (fun b => 255 - b)).reverse
/-- the encoding of a number that is not negative -/
def numL (n : Int) : List UInt8 := if n < 0 then [] else intL n
def escT (c : UInt8) : List UInt8 := if c = 0 then [0, 255] else [c]
def escTs (s : List UInt8) : List UInt8 := s.flatMap escT
/-- the encoding of a string -/
def textL (s : List UInt8) : List UInt8 := escTs s ++ [0, 1]
/-- an int -/
def I64 (n : Int) : Prop := -9223372036854775808 ≤ n ∧ n ≤ 9223372036854775807
theorem intL_len {n : Int} (h : I64 n) : 1 ≤ (intL n).length ∧ (intL n).length ≤ 9 := by
  unfold I64 at h
  unfold intL
  split
  · have := leb_len8 (m := n.toNat) (by omega)
    simp; omega
  · have := leb_len8 (m := (-(n + 1)).toNat) (by omega)
    simp; omega
theorem escT_len (c : UInt8) : 1 ≤ (escT c).length ∧ (escT c).length ≤ 2 := by
  unfold escT
  split <;> simp
theorem escTs_len (s : List UInt8) : s.length ≤ (escTs s).length ∧ (escTs s).length ≤ 2 * s.length := by
  induction s with
  | nil => simp [escTs]
  | cons c s ih =>
    have := escT_len c
    simp only [escTs, List.flatMap_cons, List.length_append, List.length_cons] at ih ⊢
    omega
theorem textL_len (s : List UInt8) : (textL s).length ≤ 2 * s.length + 2 := by
  have := escTs_len s
  simp [textL]; omega
/-- reading an integer -/
def rdInt (s : List UInt8) : Option (Int × List UInt8) :=
  match s with
  | [] => none
  | c :: r =>
    let k := if c.toNat < 128 then 127 - c.toNat else c.toNat - 128
    if 8 < k ∨ r.length < k then none else
    let d := if c.toNat < 128 then (r.take k).map (fun b => 255 - b) else r.take k
    if d.head? = some 0 then none else
    if 9223372036854775807 < valL d.reverse then none else
    some (if c.toNat < 128 then -(valL d.reverse : Int) - 1 else (valL d.reverse : Int), r.drop k)
theorem flip_flip (b : UInt8) : 255 - (255 - b) = b := by
  apply UInt8.toNat_inj.1
  have := b.toNat_lt
  have h1 : (255 - b).toNat = 255 - b.toNat := by
    rw [UInt8.toNat_sub_of_le]
    · rfl
    · rw [UInt8.le_iff_toNat_le]; show b.toNat ≤ 255; omega
  rw [UInt8.toNat_sub_of_le, h1]
  · show 255 - (255 - b.toNat) = _; omega
  · rw [UInt8.le_iff_toNat_le, h1]; show 255 - b.toNat ≤ 255; omega
theorem flips_flips (l : List UInt8) : (l.map (fun b => 255 - b)).map (fun b => 255 - b) = l := by
  rw [List.map_map]
  conv => rhs; rw [← List.map_id l]
  apply List.map_congr_left
  intro b _
  exact flip_flip b
theorem rdInt_intL {n : Int} (h : I64 n) (r : List UInt8) : rdInt (intL n ++ r) = some (n, r) := by
  unfold I64 at h
  unfold intL
  split
  · next hn =>
    have hl := leb_len8 (m := n.toNat) (by omega)
    have hv := val_leb n.toNat
    have hz := leb_last n.toNat
    generalize lebL n.toNat = l at *
    have hc : (UInt8.ofNat (128 + l.length)).toNat = 128 + l.length := ofNat_toNat _ (by omega)
    have ht : (l.reverse ++ r).take l.length = l.reverse := by rw [List.take_append_of_le_length (by simp)]; exact List.take_of_length_le (by simp)
    have hd : (l.reverse ++ r).drop l.length = r := by
      have := List.drop_left (l₁ := l.reverse) (l₂ := r)
      rwa [List.length_reverse] at this
    have hk : 128 + l.length - 128 = l.length := by omega
    have hh : ¬ l.reverse.head? = some 0 := by
      rw [List.head?_reverse]
      intro e
      exact hz 0 e rfl
    simp only [rdInt, List.cons_append, hc, hk, if_neg (show ¬ 128 + l.length < 128 by omega), ht, hd, List.reverse_reverse, hv]
    rw [if_neg (by simp; omega), if_neg hh, if_neg (by omega)]
    simp; omega
  · next hn =>
    have hl := leb_len8 (m := (-(n + 1)).toNat) (by omega)
    have hv := val_leb (-(n + 1)).toNat
    have hz := leb_last (-(n + 1)).toNat
    generalize lebL (-(n + 1)).toNat = l at *
    have hc : (UInt8.ofNat (127 - l.length)).toNat = 127 - l.length := ofNat_toNat _ (by omega)
    have hlen : (l.map (fun b => 255 - b)).reverse.length = l.length := by simp
    have ht : ((l.map (fun b => 255 - b)).reverse ++ r).take l.length = (l.map (fun b => 255 - b)).reverse := by rw [List.take_append_of_le_length (by simp)]; exact List.take_of_length_le (by simp)
    have hd : ((l.map (fun b => 255 - b)).reverse ++ r).drop l.length = r := by
      have := List.drop_left (l₁ := (l.map (fun b => 255 - b)).reverse) (l₂ := r)
      rwa [hlen] at this
    have hk : 127 - (127 - l.length) = l.length := by omega
    have hf : (l.map (fun b => 255 - b)).reverse.map (fun b => 255 - b) = l.reverse := by rw [List.map_reverse, flips_flips]
    have hh : ¬ l.reverse.head? = some 0 := by
      rw [List.head?_reverse]
      intro e
      exact hz 0 e rfl
    simp only [rdInt, List.cons_append, hc, hk, if_pos (show 127 - l.length < 128 by omega), ht, hd, hf, List.reverse_reverse, hv]
    rw [if_neg (by simp; omega), if_neg hh, if_neg (by omega)]
    simp; omega
theorem intL_rdInt {s r : List UInt8} {n : Int} (h : rdInt s = some (n, r)) : s = intL n ++ r ∧ I64 n := by
  cases s with
  | nil => simp [rdInt] at h
  | cons c s =>
    have hc8 := c.toNat_lt
    simp only [rdInt] at h
    by_cases hc : c.toNat < 128
    · simp only [if_pos hc] at h
      by_cases h1 : 8 < 127 - c.toNat ∨ s.length < 127 - c.toNat
      · rw [if_pos h1] at h; cases h
      · rw [if_neg h1] at h
        have hk : (s.take (127 - c.toNat)).length = 127 - c.toNat := by rw [List.length_take]; omega
        have hs : s = s.take (127 - c.toNat) ++ s.drop (127 - c.toNat) := (List.take_append_drop _ _).symm
        generalize hd : s.take (127 - c.toNat) = d at *
        by_cases h2 : (d.map (fun b => 255 - b)).head? = some 0
        · rw [if_pos h2] at h; cases h
        · rw [if_neg h2] at h
          by_cases h3 : 9223372036854775807 < valL (d.map (fun b => 255 - b)).reverse
          · rw [if_pos h3] at h; cases h
          · rw [if_neg h3] at h
            simp only [Option.some.injEq, Prod.mk.injEq] at h
            obtain ⟨hn, hr⟩ := h
            have hl : lebL (valL (d.map (fun b => 255 - b)).reverse) = (d.map (fun b => 255 - b)).reverse := leb_val _ (fun b hb => by
              rw [List.getLast?_reverse] at hb
              intro e; subst e; exact h2 hb)
            have hm : (-(n + 1)).toNat = valL (d.map (fun b => 255 - b)).reverse := by omega
            refine ⟨?_, by unfold I64; omega⟩
            unfold intL
            rw [if_neg (by omega), hm, hl]
            simp only [List.length_reverse, List.length_map, hk, List.map_reverse, flips_flips, List.reverse_reverse]
            have hce : UInt8.ofNat (127 - (127 - c.toNat)) = c := UInt8.toNat_inj.1 (by rw [ofNat_toNat _ (by omega)]; omega)
            rw [← hr, List.cons_append, ← hs, hce]
    · simp only [if_neg hc] at h
      by_cases h1 : 8 < c.toNat - 128 ∨ s.length < c.toNat - 128
      · rw [if_pos h1] at h; cases h
      · rw [if_neg h1] at h
        have hk : (s.take (c.toNat - 128)).length = c.toNat - 128 := by rw [List.length_take]; omega
        have hs : s = s.take (c.toNat - 128) ++ s.drop (c.toNat - 128) := (List.take_append_drop _ _).symm
        generalize hd : s.take (c.toNat - 128) = d at *
        by_cases h2 : d.head? = some 0
        · rw [if_pos h2] at h; cases h
        · rw [if_neg h2] at h
          by_cases h3 : 9223372036854775807 < valL d.reverse
          · rw [if_pos h3] at h; cases h
          · rw [if_neg h3] at h
            simp only [Option.some.injEq, Prod.mk.injEq] at h
            obtain ⟨hn, hr⟩ := h
            have hl : lebL (valL d.reverse) = d.reverse := leb_val _ (fun b hb => by
              rw [List.getLast?_reverse] at hb
              intro e; subst e; exact h2 hb)
            have hm : n.toNat = valL d.reverse := by omega
            refine ⟨?_, by unfold I64; omega⟩
            unfold intL
            rw [if_pos (by omega), hm, hl]
            simp only [List.length_reverse, hk, List.reverse_reverse]
            have hce : UInt8.ofNat (128 + (c.toNat - 128)) = c := UInt8.toNat_inj.1 (by rw [ofNat_toNat _ (by omega)]; omega)
            rw [← hr, List.cons_append, ← hs, hce]
/-- reading a string -/
def rdText : List UInt8 → Option (List UInt8 × List UInt8)
  | [] => none
  | [_] => none
  | c :: d :: r =>
    if c = 0 then (if d = 1 then some ([], r) else if d = 255 then (rdText r).map fun p => (0 :: p.1, p.2) else none)
    else (rdText (d :: r)).map fun p => (c :: p.1, p.2)
theorem rdText_textL (s r : List UInt8) : rdText (textL s ++ r) = some (s, r) := by
  induction s with
  | nil => simp [textL, escTs, rdText]
  | cons c s ih =>
    have e : textL (c :: s) ++ r = escT c ++ (textL s ++ r) := by simp [textL, escTs]
    rw [e]
    obtain ⟨x, y, hx⟩ : ∃ x y, textL s ++ r = x :: y := by
      cases h : textL s ++ r with
      | nil => simp [textL] at h
      | cons x y => exact ⟨x, y, rfl⟩
    unfold escT
    split
    · next h =>
      subst h
      show rdText (0 :: 255 :: (textL s ++ r)) = _
      rw [rdText, if_pos rfl, if_neg (by decide), if_pos rfl, ih]
      rfl
    · next h =>
      show rdText (c :: (textL s ++ r)) = _
      rw [hx] at ih ⊢
      rw [rdText, if_neg h, ih]
      rfl
theorem rdInt_lt {s r : List UInt8} {n : Int} (h : rdInt s = some (n, r)) : r.length < s.length := by
  obtain ⟨h1, h2⟩ := intL_rdInt h
  have := intL_len h2
  rw [h1, List.length_append]
  omega
end Go.Proofs.YtepidpegoihllaaGreatDoor
/- Package exact: Clamp, Add and Sub. -/
namespace Go.Proofs.YtepidpegoihllaaGreatDoor
open Go.RowKit
theorem ret_int {k : IntKind} {a b : Int} (h : a = b) : Ending.returned (.int k a) = .returned (.int k b) := by rw [h]
set_option maxRecDepth 100000 in
set_option maxHeartbeats 1000000 in
theorem add_any (a b : Int) (w : World) (ha : I64 a) (hb : I64 b) : Calls Tryz.prog 32 #[.int .i64 a, .int .i64 b] w fun e w' => e = .returned (.int .i64 (addS a b)) ∧ w = w' := by
  unfold I64 at ha hb
  by_cases h1 : 0 < b
  · by_cases h2 : 9223372036854775807 - b < a
    · have HE : Hid (addS a b = 9223372036854775807) := Lib.hid (by unfold addS; rw [if_pos (by omega)])
      go_enter Tryz.func32, Tryz.ntmps32
      go_wp2
      go_ret
      exact ⟨ret_int HE.out.symm, rfl⟩
    · have HE : Hid (addS a b = a + b) := Lib.hid (addS_in (by omega) (by omega))
      have t1 : ¬ b < 0 := by omega
      go_enter Tryz.func32, Tryz.ntmps32
      go_wp2
      go_ret
      exact ⟨ret_int HE.out.symm, rfl⟩
  · by_cases h2 : b < 0
    · by_cases h3 : a < -9223372036854775808 - b
      · have HE : Hid (addS a b = -9223372036854775808) := Lib.hid (by unfold addS; rw [if_neg (by omega), if_pos (by omega)])
        go_enter Tryz.func32, Tryz.ntmps32
        go_wp2
        go_ret
        exact ⟨ret_int HE.out.symm, rfl⟩
      · have HE : Hid (addS a b = a + b) := Lib.hid (addS_in (by omega) (by omega))
        go_enter Tryz.func32, Tryz.ntmps32
        go_wp2
        go_ret
        exact ⟨ret_int HE.out.symm, rfl⟩
    · have HE : Hid (addS a b = a + b) := Lib.hid (addS_in (by omega) (by omega))
      go_enter Tryz.func32, Tryz.ntmps32
      go_wp2
      go_ret
      exact ⟨ret_int HE.out.symm, rfl⟩
end Go.Proofs.YtepidpegoihllaaGreatDoor
