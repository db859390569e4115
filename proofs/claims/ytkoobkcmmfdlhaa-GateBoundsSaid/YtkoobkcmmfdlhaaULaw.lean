/- Gates as plain numbers: Scale, the limited sums, Ask, Move, Drift and Bounds, and their laws. Plain, no program. -/
import Derived.Test.YtkoobkcmmfdlhaaVLaw
namespace Go.Proofs.Ytkoobkcmmfdlhaa
/-- what exact.Scale returns -/
def scaleOk (a n d : Int) : Bool := decide (0 ≤ a) && decide (a ≤ 1125899906842624) && decide (0 ≤ n) && decide (n ≤ 1125899906842624) && decide (1 ≤ d) && decide (d ≤ 1125899906842624) && decide (a * n / d ≤ 1125899906842624)
def scaleQ (a n d : Int) : Int := if scaleOk a n d then a * n / d else 0
def scaleM (a n d : Int) : Int := if scaleOk a n d then a * n % d else 0
theorem scaleOk_iff {a n d : Int} : scaleOk a n d = true ↔ 0 ≤ a ∧ a ≤ 1125899906842624 ∧ 0 ≤ n ∧ n ≤ 1125899906842624 ∧ 1 ≤ d ∧ d ≤ 1125899906842624 ∧ a * n / d ≤ 1125899906842624 := by
  unfold scaleOk
  simp only [Bool.and_eq_true, decide_eq_true_eq]
  omega
theorem scaleQ_bd (a n d : Int) : 0 ≤ scaleQ a n d ∧ scaleQ a n d ≤ 1125899906842624 := by
  unfold scaleQ
  split
  · next h =>
    obtain ⟨h1, _, h3, _, h5, _, h7⟩ := scaleOk_iff.1 h
    exact ⟨Int.ediv_nonneg (Int.mul_nonneg h1 h3) (by omega), h7⟩
  · exact ⟨by decide, by decide⟩
theorem scaleM_bd (a n d : Int) : 0 ≤ scaleM a n d ∧ scaleM a n d ≤ 1125899906842624 := by
  unfold scaleM
  split
  · next h =>
    obtain ⟨h1, _, h3, _, h5, h6, h7⟩ := scaleOk_iff.1 h
    have := Int.emod_nonneg (a * n) (show d ≠ 0 by omega)
    have := Int.emod_lt_of_pos (a * n) (show 0 < d by omega)
    omega
  · exact ⟨by decide, by decide⟩
/-- a part of at most one whole -/
theorem scale_frac {a n d : Int} (h1 : 0 ≤ a) (h2 : a ≤ 1125899906842624) (h3 : 0 ≤ n) (h4 : n ≤ d) (h5 : d ≤ 1125899906842624) (h6 : 1 ≤ d) : scaleOk a n d = true ∧ a * n / d ≤ a := by
  have e : a * n ≤ a * d := Int.mul_le_mul_of_nonneg_left h4 h1
  have h := Int.ediv_le_ediv (show 0 < d by omega) e
  rw [Int.mul_ediv_cancel _ (by omega)] at h
  exact ⟨scaleOk_iff.2 ⟨h1, h2, h3, by omega, h6, h5, by omega⟩, h⟩
/-- limited sums -/
def addS (a b : Int) : Int := if 9223372036854775807 < a + b then 9223372036854775807 else if a + b < -9223372036854775808 then -9223372036854775808 else a + b
def subS (a b : Int) : Int := addS a (-b)
def clampN (n lo hi : Int) : Int := if n < lo then lo else if hi < n then hi else n
theorem addS_in {a b : Int} (h1 : -9223372036854775808 ≤ a + b) (h2 : a + b ≤ 9223372036854775807) : addS a b = a + b := by unfold addS; rw [if_neg (by omega), if_neg (by omega)]
theorem subS_in {a b : Int} (h1 : -9223372036854775808 ≤ a - b) (h2 : a - b ≤ 9223372036854775807) : subS a b = a - b := by unfold subS; rw [addS_in (by omega) (by omega)]; omega
theorem addS_bd (a b : Int) : -9223372036854775808 ≤ addS a b ∧ addS a b ≤ 9223372036854775807 := by unfold addS; split <;> (try split) <;> omega
theorem subS_bd (a b : Int) : -9223372036854775808 ≤ subS a b ∧ subS a b ≤ 9223372036854775807 := addS_bd _ _
theorem addS_mono {a b c d : Int} (h1 : a ≤ c) (h2 : b ≤ d) : addS a b ≤ addS c d := by unfold addS; split <;> split <;> (try split) <;> (try split) <;> omega
structure BandV where
  lo : List PointV
  hi : List PointV
structure LinkV where
  name : ByteArray
  kind : Int
  src : Int
  dst : Int
  rate : List PointV
  band : BandV
  positions : Int
  speed : Int
  leak : Int
  crest : Int
  num : Int
  den : Int
  prime : Int
  brk : Int
  backNum : Int
  backDen : Int
  delay : Int
structure GateV where
  pos : Int
  target : Int
  stuck : Bool
  opened : Bool
def headN (l : LinkV) (a b : Int) : Int := if l.dst = -1 then a else max 0 (subS a (scaleQ b l.backNum l.backDen))
def weirN (l : LinkV) (a : Int) : Int := scaleQ (max 0 (subS a l.crest)) l.num l.den
/-- what gate.asks returns -/
def asksN (l : LinkV) (pos : Int) (o : Bool) (c : List PointV) (a b : Int) : Int :=
  if l.kind = 0 then addS (scaleQ (atC c (headN l a b)) pos l.positions) l.leak
  else if l.kind = 1 then weirN l a
  else if l.kind = 2 then scaleQ l.num pos l.positions
  else if l.kind = 3 then (if o then scaleQ a l.num l.den else 0)
  else if l.kind = 5 then (if o then weirN l a else 0)
  else 0
theorem asks_k0 {l : LinkV} (h : l.kind = 0) (p : Int) (o : Bool) (c : List PointV) (a b : Int) : asksN l p o c a b = addS (scaleQ (atC c (headN l a b)) p l.positions) l.leak := by unfold asksN; rw [if_pos h]
theorem asks_k1 {l : LinkV} (h : l.kind = 1) (p : Int) (o : Bool) (c : List PointV) (a b : Int) : asksN l p o c a b = weirN l a := by unfold asksN; rw [if_neg (by omega), if_pos h]
theorem asks_k2 {l : LinkV} (h : l.kind = 2) (p : Int) (o : Bool) (c : List PointV) (a b : Int) : asksN l p o c a b = scaleQ l.num p l.positions := by unfold asksN; rw [if_neg (by omega), if_neg (by omega), if_pos h]
theorem asks_k3 {l : LinkV} (h : l.kind = 3) (p : Int) (o : Bool) (c : List PointV) (a b : Int) : asksN l p o c a b = (if o then scaleQ a l.num l.den else 0) := by unfold asksN; rw [if_neg (by omega), if_neg (by omega), if_neg (by omega), if_pos h]
theorem asks_k5 {l : LinkV} (h : l.kind = 5) (p : Int) (o : Bool) (c : List PointV) (a b : Int) : asksN l p o c a b = (if o then weirN l a else 0) := by unfold asksN; rw [if_neg (by omega), if_neg (by omega), if_neg (by omega), if_neg (by omega), if_pos h]
theorem asks_k4 {l : LinkV} (h : l.kind = 4) (p : Int) (o : Bool) (c : List PointV) (a b : Int) : asksN l p o c a b = 0 := by unfold asksN; rw [if_neg (by omega), if_neg (by omega), if_neg (by omega), if_neg (by omega), if_neg (by omega)]
def askN (l : LinkV) (g : GateV) (a b : Int) : Int := asksN l g.pos g.opened l.rate a b
/-- what gate.Move returns as the position -/
def moveP (l : LinkV) (g : GateV) : Int := if g.stuck then g.pos else addS g.pos (clampN (subS g.target g.pos) (subS 0 l.speed) l.speed)
def moveN (l : LinkV) (g : GateV) : GateV := { g with pos := moveP l g }
def aimN (l : LinkV) (g : GateV) (t : Int) : GateV := if l.positions = 0 then g else { g with target := clampN t 0 l.positions }
def faultN (l : LinkV) (g : GateV) (k : Int) : GateV :=
  if k = 0 then { g with stuck := true } else if k = 1 then { g with stuck := false }
  else if k = 2 then (if l.kind = 5 then { g with opened := true } else g)
  else if k = 3 then (if l.kind = 5 then { g with opened := false } else g) else g
-- a small gate (few positions)
/-- what is known of a link that a right basin has, as far as gates ask -/
def LinkOk (l : LinkV) : Prop :=
  (l.kind = 0 ∧ rightC l.rate = true ∧ rightC l.band.lo = true ∧ rightC l.band.hi = true ∧ underC l.band.lo l.rate = true ∧ underC l.rate l.band.hi = true ∧ Gentle l.rate ∧
    0 ≤ l.positions ∧ l.positions ≤ 64 ∧ 0 ≤ l.speed ∧ l.speed ≤ l.positions ∧ 0 ≤ l.leak ∧ l.leak ≤ 1125899906842624 ∧
    0 ≤ l.backNum ∧ 0 ≤ l.backDen ∧ l.backDen ≤ 1125899906842624 ∧ (l.dst = -1 ∨ l.backNum ≤ l.backDen)) ∨
  ((l.kind = 1 ∨ l.kind = 5) ∧ l.positions = 0 ∧ l.speed = 0 ∧ 0 ≤ l.crest ∧ l.crest ≤ 1125899906842624 ∧ 0 ≤ l.num ∧ l.num ≤ l.den ∧ 1 ≤ l.den ∧ l.den ≤ 1125899906842624) ∨
  (l.kind = 2 ∧ 0 ≤ l.num ∧ l.num ≤ 1125899906842624 ∧ 1 ≤ l.positions ∧ l.positions ≤ 64 ∧ 0 ≤ l.speed ∧ l.speed ≤ l.positions) ∨
  (l.kind = 3 ∧ l.positions = 0 ∧ l.speed = 0 ∧ 0 ≤ l.num ∧ l.num ≤ l.den ∧ 1 ≤ l.den ∧ l.den ≤ 1125899906842624) ∨
  (l.kind = 4 ∧ l.positions = 0 ∧ l.speed = 0)
theorem link_pos {l : LinkV} (h : LinkOk l) : 0 ≤ l.positions ∧ l.positions ≤ 64 ∧ 0 ≤ l.speed ∧ l.speed ≤ l.positions := by
  unfold LinkOk at h
  omega
theorem scaleQ_mono {a b n m d : Int} (ha : 0 ≤ a) (hab : a ≤ b) (hb : b ≤ 1125899906842624) (hn : 0 ≤ n) (hnm : n ≤ m) (hm : m ≤ d) (hd : d ≤ 1125899906842624) : scaleQ a n d ≤ scaleQ b m d := by
  by_cases h0 : 1 ≤ d
  · obtain ⟨h1, _⟩ := scale_frac (n := n) ha (by omega) hn (by omega) hd h0
    obtain ⟨h2, _⟩ := scale_frac (n := m) (show 0 ≤ b by omega) hb (by omega) hm hd h0
    unfold scaleQ
    rw [if_pos h1, if_pos h2]
    refine Int.ediv_le_ediv (by omega) ?_
    exact Int.le_trans (Int.mul_le_mul_of_nonneg_right hab hn) (Int.mul_le_mul_of_nonneg_left hnm (by omega))
  · have h1 : scaleOk a n d = false := by
      cases h : scaleOk a n d with
      | false => rfl
      | true => have := (scaleOk_iff.1 h).2.2.2.2.1; omega
    unfold scaleQ
    rw [h1]
    exact (scaleQ_bd b m d).1
/-- a litre more gives at most a litre more -/
theorem scaleQ_lip {a b n d : Int} (ha : 0 ≤ a) (hab : a ≤ b) (hb : b ≤ 1125899906842624) (hn : 0 ≤ n) (hm : n ≤ d) (hd : d ≤ 1125899906842624) : scaleQ b n d ≤ scaleQ a n d + (b - a) := by
  by_cases h0 : 1 ≤ d
  · obtain ⟨h1, _⟩ := scale_frac (n := n) ha (by omega) hn hm hd h0
    obtain ⟨h2, _⟩ := scale_frac (n := n) (show 0 ≤ b by omega) hb hn hm hd h0
    unfold scaleQ
    rw [if_pos h1, if_pos h2]
    refine div_lip (by omega) ?_
    have e : b * n = a * n + (b - a) * n := by rw [← Int.add_mul]; congr 1; omega
    have := Int.mul_le_mul_of_nonneg_left hm (show 0 ≤ b - a by omega)
    omega
  · have h1 : scaleOk b n d = false := by
      cases h : scaleOk b n d with
      | false => rfl
      | true => have := (scaleOk_iff.1 h).2.2.2.2.1; omega
    have := (scaleQ_bd a n d).1
    unfold scaleQ at this ⊢
    rw [h1]
    simp only [Bool.false_eq_true, if_false]
    omega
theorem weir_le {l : LinkV} {a b : Int} (ha : 0 ≤ a) (hab : a ≤ b) (hb : b ≤ 1125899906842624) (hc : 0 ≤ l.crest ∧ l.crest ≤ 1125899906842624) (hn : 0 ≤ l.num ∧ l.num ≤ l.den ∧ l.den ≤ 1125899906842624) : weirN l a ≤ weirN l b ∧ weirN l b ≤ weirN l a + (b - a) := by
  unfold weirN
  rw [subS_in (by omega) (by omega), subS_in (by omega) (by omega)]
  refine ⟨scaleQ_mono (by omega) (by omega) (by omega) hn.1 (Int.le_refl _) hn.2.1 hn.2.2, ?_⟩
  have := scaleQ_lip (a := max 0 (a - l.crest)) (b := max 0 (b - l.crest)) (by omega) (by omega) (by omega) hn.1 hn.2.1 hn.2.2
  omega
theorem head_le {l : LinkV} {a a' b b' : Int} (ha : 0 ≤ a) (haa : a ≤ a') (ha' : a' ≤ 1125899906842624) (hb : 0 ≤ b') (hbb : b' ≤ b) (hb' : b ≤ 1125899906842624)
    (hn : 0 ≤ l.backNum ∧ 0 ≤ l.backDen ∧ l.backDen ≤ 1125899906842624 ∧ (l.dst = -1 ∨ l.backNum ≤ l.backDen)) : headN l a b ≤ headN l a' b' ∧ headN l a' b ≤ headN l a b + (a' - a) := by
  unfold headN
  obtain ⟨h1, h2, h3, h4⟩ := hn
  by_cases hd : l.dst = -1
  · rw [if_pos hd, if_pos hd, if_pos hd]
    omega
  · rw [if_neg hd, if_neg hd, if_neg hd]
    have h5 : l.backNum ≤ l.backDen := by omega
    have k := scaleQ_mono hb hbb hb' h1 (Int.le_refl _) h5 h3
    have k1 := scaleQ_bd b l.backNum l.backDen
    have k2 := scaleQ_bd b' l.backNum l.backDen
    rw [subS_in (by omega) (by omega), subS_in (by omega) (by omega), subS_in (by omega) (by omega)]
    omega
/-- what is asked for grows with the volume of From, the position, the state and the curve, and falls with the volume of To -/
theorem asks_le {l : LinkV} {p p' : Int} {o o' : Bool} {c c' : List PointV} {a a' b b' : Int} (hl : LinkOk l) (hp : 0 ≤ p) (hpp : p ≤ p') (hp' : p' ≤ l.positions) (ho : o = true → o' = true)
    (hc : l.kind = 0 → ∀ x, atC c x ≤ atC c' x) (ha : 0 ≤ a) (haa : a ≤ a') (ha' : a' ≤ 1125899906842624) (hb : 0 ≤ b') (hbb : b' ≤ b) (hb' : b ≤ 1125899906842624) : asksN l p o c a b ≤ asksN l p' o' c' a' b' := by
  have hlp := link_pos hl
  rcases hl with h | h | h | h | h
  · rw [asks_k0 h.1, asks_k0 h.1]
    obtain ⟨h0, -, -, -, -, -, -, -, -, -, -, hk1, hk2, hk3⟩ := h
    refine addS_mono ?_ (Int.le_refl _)
    have k1 := (head_le ha haa ha' hb hbb hb' hk3).1
    have k2 := atC_mono c k1
    have k3 := hc h0 (headN l a' b')
    exact scaleQ_mono (atC_bd _ _).1 (by omega) (atC_bd _ _).2 hp hpp hp' (by omega)
  · obtain ⟨h0, -, -, h3, h4, h5, h6, h7, h8⟩ := h
    have k := (weir_le ha haa ha' ⟨h3, h4⟩ ⟨h5, h6, h8⟩).1
    have w0 := (scaleQ_bd (max 0 (subS a' l.crest)) l.num l.den).1
    rcases h0 with h0 | h0
    · rw [asks_k1 h0, asks_k1 h0]
      exact k
    · rw [asks_k5 h0, asks_k5 h0]
      cases o
      · cases o'
        · exact Int.le_refl _
        · exact w0
      · rw [ho rfl]
        exact k
  · obtain ⟨h0, h1, h2, h3, h4, _⟩ := h
    rw [asks_k2 h0, asks_k2 h0]
    exact scaleQ_mono h1 (Int.le_refl _) h2 hp hpp hp' (by omega)
  · obtain ⟨h0, -, -, h3, h4, h5, h6⟩ := h
    rw [asks_k3 h0, asks_k3 h0]
    have w0 := (scaleQ_bd a' l.num l.den).1
    cases o
    · cases o'
      · exact Int.le_refl _
      · exact w0
    · rw [ho rfl]
      exact scaleQ_mono ha haa ha' h3 (Int.le_refl _) h4 h6
  · obtain ⟨h0, -⟩ := h
    rw [asks_k4 h0, asks_k4 h0]
    exact Int.le_refl _
theorem addS_lip {a b c n : Int} (h0 : 0 ≤ n) (h : a ≤ b + n) : addS a c ≤ addS b c + n := by unfold addS; split <;> split <;> (try split) <;> (try split) <;> omega
/-- a litre more at From asks for at most a litre more -/
theorem asks_lip {l : LinkV} {p : Int} {o : Bool} {a a' b : Int} (hl : LinkOk l) (hp : 0 ≤ p) (hp' : p ≤ l.positions) (ha : 0 ≤ a) (haa : a ≤ a') (ha' : a' ≤ 1125899906842624) (hb : 0 ≤ b) (hb' : b ≤ 1125899906842624) :
    asksN l p o l.rate a' b ≤ asksN l p o l.rate a b + (a' - a) := by
  have hlp := link_pos hl
  rcases hl with h | h | h | h | h
  · rw [asks_k0 h.1, asks_k0 h.1]
    obtain ⟨h0, -, -, -, -, -, hg, -, -, -, -, hk1, hk2, hk3⟩ := h
    refine addS_lip (by omega) ?_
    have k1 := (head_le ha haa ha' hb (Int.le_refl b) hb' hk3)
    have k2 := atC_lip hg k1.1
    have k4 := atC_mono l.rate k1.1
    have k3 := scaleQ_lip (a := atC l.rate (headN l a b)) (b := atC l.rate (headN l a' b)) (n := p) (d := l.positions) (atC_bd _ _).1 k4 (atC_bd _ _).2 hp hp' (by omega)
    omega
  · obtain ⟨h0, -, -, h3, h4, h5, h6, h7, h8⟩ := h
    have k := (weir_le ha haa ha' ⟨h3, h4⟩ ⟨h5, h6, h8⟩).2
    rcases h0 with h0 | h0
    · rw [asks_k1 h0, asks_k1 h0]
      exact k
    · rw [asks_k5 h0, asks_k5 h0]
      cases o
      · simp only [Bool.false_eq_true, if_false]
        omega
      · exact k
  · obtain ⟨h0, _⟩ := h
    rw [asks_k2 h0, asks_k2 h0]
    omega
  · obtain ⟨h0, -, -, h3, h4, h5, h6⟩ := h
    rw [asks_k3 h0, asks_k3 h0]
    cases o
    · simp only [Bool.false_eq_true, if_false]
      omega
    · exact scaleQ_lip ha haa ha' h3 h4 h6
  · obtain ⟨h0, -⟩ := h
    rw [asks_k4 h0, asks_k4 h0]
    omega
theorem asks_bd {l : LinkV} {p : Int} {o : Bool} {c : List PointV} {a b : Int} (hl : LinkOk l) : 0 ≤ asksN l p o c a b ∧ asksN l p o c a b ≤ 2251799813685248 := by
  unfold asksN weirN
  have b1 := scaleQ_bd (atC c (headN l a b)) p l.positions
  have b2 := scaleQ_bd (max 0 (subS a l.crest)) l.num l.den
  have b3 := scaleQ_bd l.num p l.positions
  have b4 := scaleQ_bd a l.num l.den
  split
  · next h0 =>
    have hk : 0 ≤ l.leak ∧ l.leak ≤ 1125899906842624 := by unfold LinkOk at hl; omega
    rw [addS_in (by omega) (by omega)]
    omega
  · split
    · omega
    · split
      · omega
      · split
        · split <;> omega
        · split
          · split <;> omega
          · omega
theorem move_in {l : LinkV} {g : GateV} (h1 : 0 ≤ l.speed) (h2 : l.speed ≤ l.positions) (h3 : l.positions ≤ 64) (h4 : 0 ≤ g.pos ∧ g.pos ≤ l.positions) (h5 : 0 ≤ g.target ∧ g.target ≤ l.positions) :
    moveP l g = if g.stuck then g.pos else g.pos + max (-l.speed) (min (g.target - g.pos) l.speed) := by
  unfold moveP clampN
  rw [subS_in (a := g.target) (by omega) (by omega), subS_in (a := 0) (by omega) (by omega)]
  cases g.stuck
  · simp only [Bool.false_eq_true, if_false]
    split
    · rw [addS_in (by omega) (by omega)]; omega
    · split
      · rw [addS_in (by omega) (by omega)]; omega
      · rw [addS_in (by omega) (by omega)]; omega
  · rfl
end Go.Proofs.Ytkoobkcmmfdlhaa
