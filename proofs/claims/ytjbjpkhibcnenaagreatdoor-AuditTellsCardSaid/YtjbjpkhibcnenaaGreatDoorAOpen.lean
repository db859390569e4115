/- Texts merged: ALaw AOpen -/
import Derived.Test.YtjbjpkhibcnenaaGreatDoorNDiv
import Derived.KernelRfl
import Derived.Test.YtjbjpkhibcnenaaGreatDoorProg
import Derived.Test.YtjbjpkhibcnenaaGreatDoorGLaid
import Derived.Test.YtjbjpkhibcnenaaGreatDoorLoad
/- Package audit: contradictions between claims as plain values. No program in this text. -/
namespace Go.Proofs.YtjbjpkhibcnenaaGreatDoor
instance : DecidableEq CV := fun a b =>
 if h : a.office = b.office ∧ a.hour = b.hour ∧ a.inn = b.inn ∧ a.out = b.out ∧ a.store = b.store ∧ a.prev = b.prev ∧ a.e = b.e ∧ a.s = b.s then
  isTrue (by cases a; cases b; simp only at h; obtain ⟨h1, h2, h3, h4, h5, h6, h7, h8⟩ := h; rw [h1, h2, h3, h4, h5, h6, h7, h8])
 else isFalse (fun e => h (by rw [e]; exact ⟨rfl, rfl, rfl, rfl, rfl, rfl, rfl, rfl⟩))
instance : DecidableEq PV := fun a b =>
 if h : a.office = b.office ∧ a.since = b.since ∧ a.till = b.till ∧ a.litres = b.litres ∧ a.e = b.e ∧ a.s = b.s then
  isTrue (by cases a; cases b; simp only at h; obtain ⟨h1, h2, h3, h4, h5, h6⟩ := h; rw [h1, h2, h3, h4, h5, h6])
 else isFalse (fun e => h (by rw [e]; exact ⟨rfl, rfl, rfl, rfl, rfl, rfl⟩))
structure SpanV where
 lo : Int
 hi : Int
structure PublicV where
 hour : Int
 net : List SpanV
 mouth : SpanV
structure BlV where
 office : Int
 why : Int
 claims : List CV
 prom : PV
def addS (a b : Int) : Int := if 9223372036854775807 < a + b then 9223372036854775807 else if a + b < -9223372036854775808 then -9223372036854775808 else a + b
theorem addS_in {a b : Int} (h1 : -9223372036854775808 ≤ a + b) (h2 : a + b ≤ 9223372036854775807) : addS a b = a + b := by unfold addS; rw [if_neg (by omega), if_neg (by omega)]
theorem addS_bd (a b : Int) : -9223372036854775808 ≤ addS a b ∧ addS a b ≤ 9223372036854775807 := by unfold addS; split <;> (try split) <;> omega
def SpI (s : SpanV) : Prop := I64 s.lo ∧ I64 s.hi
def addSp (a b : SpanV) : SpanV := ⟨addS a.lo b.lo, addS a.hi b.hi⟩
theorem addSp_bd (a b : SpanV) : SpI (addSp a b) := ⟨addS_bd _ _, addS_bd _ _⟩
def rightSp (s : SpanV) : Bool := decide (s.lo ≤ s.hi)
def rightPb (p : PublicV) : Bool := decide (p.net.length = 3) && rightSp p.mouth && p.net.all rightSp
/-- the public data that count, by hour -/
def hoursF (pubs : List PublicV) (h : Int) : Option PublicV :=
 match pubs.find? (fun p => decide (p.hour = h)) with
 | some p => if rightPb p = true then some p else none
 | none => none
/-- the sum of what pick selects of k hours from f on -/
def sumN (H : Int → Option PublicV) (pick : PublicV → SpanV) (f : Int) : Nat → Option SpanV
 | 0 => some ⟨0, 0⟩
 | k + 1 => match sumN H pick f k, H (f + k) with
  | some t, some p => some (addSp t (pick p))
  | _, _ => none
theorem sumN_bd {H : Int → Option PublicV} {pick : PublicV → SpanV} {f : Int} : ∀ {k : Nat} {s : SpanV}, sumN H pick f k = some s → SpI s
 | 0, s, h => by
  unfold sumN at h
  cases h
  exact ⟨⟨by decide, by decide⟩, ⟨by decide, by decide⟩⟩
 | k + 1, s, h => by
  unfold sumN at h
  split at h
  ·
   cases h
   exact addSp_bd _ _
  · cases h
theorem sumN_succ {H : Int → Option PublicV} {pick : PublicV → SpanV} {f : Int} {k : Nat} {t : SpanV} {p : PublicV} (h : sumN H pick f k = some t) (hp : H (f + k) = some p) : sumN H pick f (k + 1) = some (addSp t (pick p)) := by
 unfold sumN
 rw [h, hp]
theorem sumN_stop {H : Int → Option PublicV} {pick : PublicV → SpanV} {f : Int} {k : Nat} (hp : H (f + k) = none) : ∀ n, k < n → sumN H pick f n = none := by
 intro n
 induction n with
 | zero => intro h; omega
 | succ n ih =>
  intro h
  unfold sumN
  by_cases hk : k < n
  · rw [ih hk]
  ·
   have : k = n := by omega
   subst this
   rw [hp]
   cases sumN H pick f k <;> rfl
theorem sumN_hours {H : Int → Option PublicV} {pick : PublicV → SpanV} {f : Int} : ∀ {k : Nat} {s : SpanV}, sumN H pick f k = some s → ∀ j : Nat, j < k → ∃ p, H (f + j) = some p
 | 0, _, _, j, hj => by omega
 | k + 1, s, h, j, hj => by
  unfold sumN at h
  split at h
  ·
   next t p h1 h2 =>
   by_cases e : j = k
   ·
    subst e
    exact ⟨p, h2⟩
   · exact sumN_hours h1 j (by omega)
  · cases h
/-- distinct numbers that all occur in a list are no more than its elements -/
theorem ints_le : ∀ (k : Nat) (f : Int) (l : List Int), (∀ j : Nat, j < k → f + j ∈ l) → k ≤ l.length
 | 0, _, _, _ => Nat.zero_le _
 | k + 1, f, l, h => by
  have hm := h k (by omega)
  have h2 := ints_le k f (l.erase (f + k)) (fun j hj => by
   have h3 := h j (by omega)
   rw [List.mem_erase_of_ne (by omega)]
   exact h3)
  rw [List.length_erase_of_mem hm] at h2
  have := List.length_pos_of_mem hm
  omega
theorem hoursF_mem {pubs : List PublicV} {h : Int} {p : PublicV} (hp : hoursF pubs h = some p) : p ∈ pubs ∧ p.hour = h ∧ rightPb p = true := by
 unfold hoursF at hp
 split at hp
 ·
  next q hq =>
  split at hp
  ·
   next hr =>
   cases hp
   have h2 := List.find?_some hq
   exact ⟨List.mem_of_find?_eq_some hq, of_decide_eq_true h2, hr⟩
  · cases hp
 · cases hp
theorem sumN_len {pubs : List PublicV} {pick : PublicV → SpanV} {f : Int} {k : Nat} {s : SpanV} (h : sumN (hoursF pubs) pick f k = some s) : k ≤ pubs.length := by
 have h1 := ints_le k f (pubs.map (·.hour)) (fun j hj => by
  obtain ⟨p, hp⟩ := sumN_hours h j hj
  obtain ⟨h1, h2, _⟩ := hoursF_mem hp
  exact List.mem_map.2 ⟨p, h1, h2⟩)
 rw [List.length_map] at h1
 exact h1
/-- the sum between the hours of two claims -/
def betwN (H : Int → Option PublicV) (pick : PublicV → SpanV) (a b : Int) : Option SpanV := if a < b then sumN H pick a (b - a).toNat else none
def netP (o : Int) (p : PublicV) : SpanV := (p.net[o.toNat]?).getD ⟨0, 0⟩
def mouthP (p : PublicV) : SpanV := p.mouth
def beyondB (n : Int) (s : SpanV) (k : Int) : Bool := decide (n < addS s.lo (-k) ∨ addS s.hi k < n)
/-- what a judge knows; K: the claim counts, V: the promise counts -/
structure JV where
 err : Int
 room : List Int
 H : Int → Option PublicV
 K : CV → Bool
 V : PV → Bool
def unbalB (err : Int) (c d : CV) (n : SpanV) : Bool := beyondB ((d.store - c.store) - (d.inn - c.inn) + (d.out - c.out)) n (6 * err)
def contrB (err : Int) (c d : CV) (n : SpanV) : Bool := beyondB (d.out - c.out) n (2 * err)
def laterB (H : Int → Option PublicV) (pick : PublicV → SpanV) (bad : CV → CV → SpanV → Bool) (c d : CV) : Bool :=
 match betwN H pick c.hour d.hour with
 | some n => bad c d n
 | none => false
def balB (J : JV) (o : Int) (c d : CV) : Bool := laterB J.H (netP o) (unbalB J.err) c d
def mouB (J : JV) (c d : CV) : Bool := laterB J.H mouthP (contrB J.err) c d
def forkB (c d : CV) : Bool := decide (c.hour = d.hour) && decide (c ≠ d)
def rangeB (J : JV) (c : CV) : Bool :=
 match J.room[c.office.toNat]? with
 | none => false
 | some r => decide (c.store < -J.err) || decide (r + J.err < c.store) || (decide (c.office = 0) && (decide (c.inn < -J.err) || decide (J.err < c.inn)))
def disB (J : JV) (c d : CV) : Bool := decide (c.hour = d.hour) && (decide (2 * J.err < c.out - d.inn) || decide (c.out - d.inn < -(2 * J.err)))
def brkB (J : JV) (p : PV) (c d : CV) : Bool := decide (c.hour = p.since) && decide (d.hour = p.till) && decide (p.since < p.till) && decide (d.out - c.out < p.litres - 2 * J.err)
/-- all claims are of the office -/
def allB (l : List CV) (o : Int) : Bool := l.all (fun c => decide (c.office = o))
def condB (J : JV) (x : BlV) : Bool :=
 if x.why = 0 then (match x.claims with | [c, d] => allB [c, d] x.office && forkB c d | _ => false)
 else if x.why = 1 then (match x.claims with | [c, d] => allB [c, d] x.office && balB J x.office c d | _ => false)
 else if x.why = 2 then (match x.claims with | [c] => allB [c] x.office && rangeB J c | _ => false)
 else if x.why = 3 then decide (x.office = 2) && (match x.claims with | [c, d] => allB [c, d] 2 && mouB J c d | _ => false)
 else if x.why = 4 then decide (x.office = 1) && (match x.claims with | [a, b, c, d] => allB [a] 0 && allB [b, c] 1 && allB [d] 2 && disB J a b && disB J c d | _ => false)
 else if x.why = 5 then (match x.claims with | [c, d] => allB [c, d] x.office && decide (x.prom.office = x.office) && J.V x.prom && brkB J x.prom c d | _ => false)
 else false
def checkB (J : JV) (x : BlV) : Bool := decide (0 ≤ x.office ∧ x.office < 3) && x.claims.all J.K && condB J x
/-- the claims of an office that count -/
def clO (J : JV) (l : List CV) (o : Int) : List CV := l.filter (fun c => J.K c && decide (c.office = o))
def first2 (P : CV → CV → Bool) (l m : List CV) : Option (CV × CV) := l.findSome? (fun c => (m.find? (P c)).map fun d => (c, d))
def two (o why : Int) (r : Option (CV × CV)) : Option BlV := r.map fun x => ⟨o, why, [x.1, x.2], zeroP⟩
def brokeL (J : JV) (L : List CV) (vows : List PV) (o : Int) : Option BlV :=
 vows.findSome? (fun p => if J.V p = true ∧ p.office = o then (first2 (brkB J p) L L).map fun x => ⟨o, 5, [x.1, x.2], p⟩ else none)
def bothL (J : JV) (l : List CV) : Option BlV :=
 match first2 (disB J) (clO J l 0) (clO J l 1), first2 (disB J) (clO J l 1) (clO J l 2) with
 | some (c, d), some (e, f) => some ⟨1, 4, [c, d, e, f], zeroP⟩
 | _, _ => none
def blameL (J : JV) (l : List CV) (vows : List PV) (o : Int) (why : Nat) : Option BlV :=
 if why = 0 then two o 0 (first2 forkB (clO J l o) (clO J l o))
 else if why = 1 then two o 1 (first2 (balB J o) (clO J l o) (clO J l o))
 else if why = 2 then ((clO J l o).find? (rangeB J)).map fun c => ⟨o, 2, [c], zeroP⟩
 else if why = 3 then (if o = 2 then two o 3 (first2 (mouB J) (clO J l o) (clO J l o)) else none)
 else if why = 4 then (if o = 1 then bothL J l else none)
 else if why = 5 then brokeL J (clO J l o) vows o
 else none
theorem bl0 (J : JV) (l : List CV) (vows : List PV) (o : Int) : blameL J l vows o 0 = two o 0 (first2 forkB (clO J l o) (clO J l o)) := rfl
theorem bl1 (J : JV) (l : List CV) (vows : List PV) (o : Int) : blameL J l vows o 1 = two o 1 (first2 (balB J o) (clO J l o) (clO J l o)) := rfl
theorem bl2 (J : JV) (l : List CV) (vows : List PV) (o : Int) : blameL J l vows o 2 = ((clO J l o).find? (rangeB J)).map fun c => ⟨o, 2, [c], zeroP⟩ := rfl
theorem bl3 (J : JV) (l : List CV) (vows : List PV) (o : Int) : blameL J l vows o 3 = (if o = 2 then two o 3 (first2 (mouB J) (clO J l o) (clO J l o)) else none) := rfl
theorem bl4 (J : JV) (l : List CV) (vows : List PV) (o : Int) : blameL J l vows o 4 = (if o = 1 then bothL J l else none) := rfl
theorem bl5 (J : JV) (l : List CV) (vows : List PV) (o : Int) : blameL J l vows o 5 = brokeL J (clO J l o) vows o := rfl
def findO (J : JV) (l : List CV) (vows : List PV) (o : Int) : List BlV := (List.range 6).filterMap (blameL J l vows o)
def findL (J : JV) (l : List CV) (vows : List PV) : List BlV := [(0 : Int), 1, 2].flatMap (findO J l vows)
theorem first2_some {P : CV → CV → Bool} {l m : List CV} {c d : CV} (h : first2 P l m = some (c, d)) : c ∈ l ∧ d ∈ m ∧ P c d = true := by
 unfold first2 at h
 obtain ⟨a, ha, hm⟩ := List.exists_of_findSome?_eq_some h
 rw [Option.map_eq_some_iff] at hm
 obtain ⟨b, hb, e⟩ := hm
 cases e
 exact ⟨ha, List.mem_of_find?_eq_some hb, List.find?_some hb⟩
theorem first2_is {P : CV → CV → Bool} {l m : List CV} {c d : CV} (hc : c ∈ l) (hd : d ∈ m) (hP : P c d = true) : ∃ x, first2 P l m = some x := by
 cases h : first2 P l m with
 | some x => exact ⟨x, rfl⟩
 | none =>
  unfold first2 at h
  rw [List.findSome?_eq_none_iff] at h
  have h1 := h c hc
  rw [Option.map_eq_none_iff, List.find?_eq_none] at h1
  exact absurd hP (h1 d hd)
theorem mem_clO {J : JV} {l : List CV} {o : Int} {c : CV} : c ∈ clO J l o ↔ c ∈ l ∧ J.K c = true ∧ c.office = o := by
 unfold clO
 rw [List.mem_filter]
 simp
theorem two_some {o why : Int} {r : Option (CV × CV)} {x : BlV} (h : two o why r = some x) : ∃ c d, r = some (c, d) ∧ x = ⟨o, why, [c, d], zeroP⟩ := by
 unfold two at h
 rw [Option.map_eq_some_iff] at h
 obtain ⟨⟨c, d⟩, h1, h2⟩ := h
 exact ⟨c, d, h1, h2.symm⟩
/-- what a found blame consists of -/
theorem blame_ok {J : JV} {l : List CV} {vows : List PV} {o : Int} {why : Nat} {x : BlV} (ho : 0 ≤ o ∧ o < 3) (h : blameL J l vows o why = some x) :
 x.office = o ∧ x.why = why ∧ why < 6 ∧ checkB J x = true ∧ (∀ c ∈ x.claims, c ∈ l) ∧ (x.why = 5 → x.prom ∈ vows) := by
 unfold blameL at h
 split at h
 ·
  next e =>
  subst e
  obtain ⟨c, d, h1, rfl⟩ := two_some h
  obtain ⟨hc, hd, hP⟩ := first2_some h1
  rw [mem_clO] at hc hd
  refine ⟨rfl, rfl, by decide, ?_, ?_, fun e => by cases e⟩
  · simp [checkB, condB, allB, ho, hc, hd, hP]
  · simp [hc, hd]
 split at h
 ·
  next e =>
  subst e
  obtain ⟨c, d, h1, rfl⟩ := two_some h
  obtain ⟨hc, hd, hP⟩ := first2_some h1
  rw [mem_clO] at hc hd
  refine ⟨rfl, rfl, by decide, ?_, ?_, fun e => by cases e⟩
  · simp [checkB, condB, allB, ho, hc, hd, hP]
  · simp [hc, hd]
 split at h
 ·
  next e =>
  subst e
  rw [Option.map_eq_some_iff] at h
  obtain ⟨c, h1, rfl⟩ := h
  have hP := List.find?_some h1
  have hc := List.mem_of_find?_eq_some h1
  rw [mem_clO] at hc
  refine ⟨rfl, rfl, by decide, ?_, ?_, fun e => by cases e⟩
  · simp [checkB, condB, allB, ho, hc, hP]
  · simp [hc]
 split at h
 ·
  next e =>
  subst e
  split at h
  ·
   next e2 =>
   subst e2
   obtain ⟨c, d, h1, rfl⟩ := two_some h
   obtain ⟨hc, hd, hP⟩ := first2_some h1
   rw [mem_clO] at hc hd
   refine ⟨rfl, rfl, by decide, ?_, ?_, fun e => by cases e⟩
   · simp [checkB, condB, allB, hc, hd, hP]
   · simp [hc, hd]
  · cases h
 split at h
 ·
  next e =>
  subst e
  split at h
  ·
   next e2 =>
   subst e2
   unfold bothL at h
   split at h
   ·
    next a b c d h1 h2 =>
    cases h
    obtain ⟨ha, hb, hP⟩ := first2_some h1
    obtain ⟨hc, hd, hQ⟩ := first2_some h2
    rw [mem_clO] at ha hb hc hd
    refine ⟨rfl, rfl, by decide, ?_, ?_, fun e => by cases e⟩
    · simp [checkB, condB, allB, ha, hb, hc, hd, hP, hQ]
    · simp [ha, hb, hc, hd]
   · cases h
  · cases h
 split at h
 ·
  next e =>
  subst e
  unfold brokeL at h
  obtain ⟨p, hp, hm⟩ := List.exists_of_findSome?_eq_some h
  split at hm
  ·
   next e2 =>
   rw [Option.map_eq_some_iff] at hm
   obtain ⟨⟨c, d⟩, h1, rfl⟩ := hm
   obtain ⟨hc, hd, hP⟩ := first2_some h1
   rw [mem_clO] at hc hd
   refine ⟨rfl, rfl, by decide, ?_, ?_, fun _ => hp⟩
   · simp [checkB, condB, allB, ho, hc, hd, hP, e2]
   · simp [hc, hd]
  · cases hm
 · cases h
/-- if a proof lies in the lists, one is found -/
theorem blame_is {J : JV} {l : List CV} {vows : List PV} {x : BlV} (hx : checkB J x = true) (hl : ∀ c ∈ x.claims, c ∈ l) (hv : x.why = 5 → x.prom ∈ vows) :
 0 ≤ x.office ∧ x.office < 3 ∧ 0 ≤ x.why ∧ x.why < 6 ∧ ∃ y, blameL J l vows x.office x.why.toNat = some y := by
 obtain ⟨o, why, cl, p⟩ := x
 simp only at hl hv ⊢
 unfold checkB at hx
 simp only [Bool.and_eq_true, decide_eq_true_eq] at hx
 obtain ⟨⟨⟨ho1, ho2⟩, hK⟩, hc⟩ := hx
 unfold condB at hc
 simp only at hc
 refine ⟨ho1, ho2, ?_⟩
 split at hc
 ·
  next e =>
  subst e
  refine ⟨by decide, by decide, ?_⟩
  split at hc
  ·
   next c d =>
   simp [allB] at hc hK hl
   obtain ⟨x, h⟩ := first2_is (P := forkB) (l := clO J l o) (m := clO J l o) (mem_clO.2 ⟨hl.1, hK.1, hc.1.1⟩) (mem_clO.2 ⟨hl.2, hK.2, hc.1.2⟩) hc.2
   exact ⟨_, (bl0 J l vows o).trans (by rw [h]; rfl)⟩
  · cases hc
 split at hc
 ·
  next e =>
  subst e
  refine ⟨by decide, by decide, ?_⟩
  split at hc
  ·
   next c d =>
   simp [allB] at hc hK hl
   obtain ⟨x, h⟩ := first2_is (P := balB J o) (l := clO J l o) (m := clO J l o) (mem_clO.2 ⟨hl.1, hK.1, hc.1.1⟩) (mem_clO.2 ⟨hl.2, hK.2, hc.1.2⟩) hc.2
   exact ⟨_, (bl1 J l vows o).trans (by rw [h]; rfl)⟩
  · cases hc
 split at hc
 ·
  next e =>
  subst e
  refine ⟨by decide, by decide, ?_⟩
  split at hc
  ·
   next c =>
   simp [allB] at hc hK hl
   have hm : c ∈ clO J l o := mem_clO.2 ⟨hl, hK, hc.1⟩
   cases h : (clO J l o).find? (rangeB J) with
   | none =>
    rw [List.find?_eq_none] at h
    exact absurd hc.2 (h c hm)
   | some y => exact ⟨_, (bl2 J l vows o).trans (by rw [h]; rfl)⟩
  · cases hc
 split at hc
 ·
  next e =>
  subst e
  refine ⟨by decide, by decide, ?_⟩
  rw [Bool.and_eq_true, decide_eq_true_eq] at hc
  obtain ⟨rfl, hc⟩ := hc
  split at hc
  ·
   next c d =>
   simp [allB] at hc hK hl
   obtain ⟨x, h⟩ := first2_is (P := mouB J) (l := clO J l 2) (m := clO J l 2) (mem_clO.2 ⟨hl.1, hK.1, hc.1.1⟩) (mem_clO.2 ⟨hl.2, hK.2, hc.1.2⟩) hc.2
   exact ⟨_, (bl3 J l vows 2).trans (by rw [if_pos rfl, h]; rfl)⟩
  · cases hc
 split at hc
 ·
  next e =>
  subst e
  refine ⟨by decide, by decide, ?_⟩
  rw [Bool.and_eq_true, decide_eq_true_eq] at hc
  obtain ⟨rfl, hc⟩ := hc
  split at hc
  ·
   next a b c d =>
   simp [allB] at hc hK hl
   obtain ⟨⟨⟨⟨h0, h1, h2⟩, h3⟩, hP⟩, hQ⟩ := hc
   obtain ⟨x, h⟩ := first2_is (P := disB J) (l := clO J l 0) (m := clO J l 1) (mem_clO.2 ⟨hl.1, hK.1, h0⟩) (mem_clO.2 ⟨hl.2.1, hK.2.1, h1⟩) hP
   obtain ⟨y, h'⟩ := first2_is (P := disB J) (l := clO J l 1) (m := clO J l 2) (mem_clO.2 ⟨hl.2.2.1, hK.2.2.1, h2⟩) (mem_clO.2 ⟨hl.2.2.2, hK.2.2.2, h3⟩) hQ
   exact ⟨_, (bl4 J l vows 1).trans (by rw [if_pos rfl]; unfold bothL; rw [h, h'])⟩
  · cases hc
 split at hc
 ·
  next e =>
  subst e
  refine ⟨by decide, by decide, ?_⟩
  split at hc
  ·
   next c d =>
   simp [allB] at hc hK hl
   obtain ⟨⟨⟨⟨h0, h1⟩, h2⟩, h3⟩, hP⟩ := hc
   have hpv := hv rfl
   cases h : brokeL J (clO J l o) vows o with
   | none =>
    unfold brokeL at h
    rw [List.findSome?_eq_none_iff] at h
    have h4 := h p hpv
    rw [if_pos ⟨h3, h2⟩, Option.map_eq_none_iff] at h4
    obtain ⟨x, h5⟩ := first2_is (P := brkB J p) (l := clO J l o) (m := clO J l o) (mem_clO.2 ⟨hl.1, hK.1, h0⟩) (mem_clO.2 ⟨hl.2, hK.2, h1⟩) hP
    rw [h4] at h5
    cases h5
   | some y => exact ⟨y, (bl5 J l vows o).trans h⟩
  · cases hc
 · cases hc
theorem mem_findL {J : JV} {l : List CV} {vows : List PV} {x : BlV} : x ∈ findL J l vows ↔ ∃ (o : Int) (why : Nat), 0 ≤ o ∧ o < 3 ∧ blameL J l vows o why = some x := by
 unfold findL findO
 rw [List.mem_flatMap]
 constructor
 ·
  rintro ⟨o, ho, hx⟩
  rw [List.mem_filterMap] at hx
  obtain ⟨why, _, h⟩ := hx
  have : o = 0 ∨ o = 1 ∨ o = 2 := by simpa using ho
  exact ⟨o, why, by omega, by omega, h⟩
 ·
  rintro ⟨o, why, h1, h2, h⟩
  have hw := (blame_ok ⟨h1, h2⟩ h).2.2.1
  refine ⟨o, ?_, List.mem_filterMap.2 ⟨why, List.mem_range.2 hw, h⟩⟩
  have : o = 0 ∨ o = 1 ∨ o = 2 := by omega
  simpa using this
/-- by office and reason, in ascending order -/
def ltOW (x y : BlV) : Prop := x.office < y.office ∨ x.office = y.office ∧ x.why < y.why
theorem findL_sorted (J : JV) (l : List CV) (vows : List PV) : (findL J l vows).Pairwise ltOW := by
 have hO : ∀ o : Int, 0 ≤ o → o < 3 → (findO J l vows o).Pairwise ltOW ∧ ∀ x ∈ findO J l vows o, x.office = o := by
  intro o h1 h2
  refine ⟨?_, fun x hx => ?_⟩
  ·
   unfold findO
   rw [List.pairwise_filterMap]
   refine List.Pairwise.imp ?_ List.pairwise_lt_range
   intro a b hab x hx y hy
   have e1 := blame_ok ⟨h1, h2⟩ hx
   have e2 := blame_ok ⟨h1, h2⟩ hy
   right
   rw [e1.1, e2.1, e1.2.1, e2.2.1]
   exact ⟨rfl, by omega⟩
  ·
   unfold findO at hx
   rw [List.mem_filterMap] at hx
   obtain ⟨why, _, h⟩ := hx
   exact (blame_ok ⟨h1, h2⟩ h).1
 obtain ⟨p0, q0⟩ := hO 0 (by decide) (by decide)
 obtain ⟨p1, q1⟩ := hO 1 (by decide) (by decide)
 obtain ⟨p2, q2⟩ := hO 2 (by decide) (by decide)
 have e : findL J l vows = findO J l vows 0 ++ (findO J l vows 1 ++ findO J l vows 2) := by
  unfold findL
  simp
 rw [e, List.pairwise_append, List.pairwise_append]
 refine ⟨p0, ⟨p1, p2, fun x hx y hy => ?_⟩, fun x hx y hy => ?_⟩
 ·
  left
  rw [q1 x hx, q2 y hy]
  decide
 ·
  left
  rw [q0 x hx]
  rw [List.mem_append] at hy
  rcases hy with hy | hy
  · rw [q1 y hy]; decide
  · rw [q2 y hy]; decide
/-- AuditProves, the first part -/
theorem find_proves {J : JV} {l : List CV} {vows : List PV} {x : BlV} (h : x ∈ findL J l vows) : checkB J x = true ∧ (∀ c ∈ x.claims, c ∈ l) ∧ (x.why = 5 → x.prom ∈ vows) := by
 obtain ⟨o, why, h1, h2, h⟩ := mem_findL.1 h
 exact (blame_ok ⟨h1, h2⟩ h).2.2.2
/-- AuditProves, the second part -/
theorem find_all {J : JV} {l : List CV} {vows : List PV} {x : BlV} (hx : checkB J x = true) (hl : ∀ c ∈ x.claims, c ∈ l) (hv : x.why = 5 → x.prom ∈ vows) : ∃ y ∈ findL J l vows, y.office = x.office ∧ y.why = x.why := by
 obtain ⟨h1, h2, h3, h4, y, hy⟩ := blame_is hx hl hv
 refine ⟨y, mem_findL.2 ⟨_, _, h1, h2, hy⟩, ?_⟩
 have := blame_ok ⟨h1, h2⟩ hy
 exact ⟨this.1, by rw [this.2.1]; omega⟩
end Go.Proofs.YtjbjpkhibcnenaaGreatDoor
/- Public data, promises, blames and basins that came in. -/
namespace Go.Proofs.YtjbjpkhibcnenaaGreatDoor
set_option maxRecDepth 100000
open Go.RowKit
theorem und_LP : Tryz.prog.underlying 51 = some (.slice 53) := by kernel_rfl
theorem und_LS : Tryz.prog.underlying 32 = some (.slice 55) := by kernel_rfl
def RSpan (x : SpanV) (cs : List Value) (_ : World) : Prop := cs = [.int .i64 x.lo, .int .i64 x.hi] ∧ (-9223372036854775808 ≤ x.lo ∧ x.lo ≤ 9223372036854775807) ∧ (-9223372036854775808 ≤ x.hi ∧ x.hi ≤ 9223372036854775807)
theorem stays_Span : Stays RSpan := fun _ _ _ _ h _ => h
theorem struct_Span : (match Tryz.prog.underlying 53 with | some (.struct fs) => some (fs.map fun f => (f.type, f.offset)) | _ => none) = some #[(3, 0), (3, 1)] := by kernel_rfl
theorem cells_Span : Tryz.prog.cellsOf 53 = 2 := by kernel_rfl
theorem Span_of_rd {w : World} (cs : List Value) (h : Rd Tryz.prog w 53 cs) : ∃ x : SpanV, RSpan x cs w := by
 have hl := h.len struct_Span
 rw [cells_Span] at hl
 have h0 := h.field struct_Span (i := 0) (u := 3) (o := 0) (size := 1) rfl (by kernel_rfl)
 have h1 := h.field struct_Span (i := 1) (u := 3) (o := 1) (size := 1) rfl (by kernel_rfl)
 match cs, hl with
 | [c0, c1], _ =>
  simp only [List.drop_zero, List.drop_succ_cons, List.take_succ_cons, List.take_zero] at h0 h1
  obtain ⟨x0, e0, b0⟩ := rint_of_rd (w := w) und_I _ h0
  obtain ⟨x1, e1, b1⟩ := rint_of_rd (w := w) und_I _ h1
  simp only [List.cons.injEq, and_true] at e0 e1
  exact ⟨⟨x0, x1⟩, by rw [e0, e1], b0, b1⟩
def RPublic (x : PublicV) (cs : List Value) (w : World) : Prop := ∃ v0 : Value, cs = [.int .i64 x.hour, v0, .int .i64 x.mouth.lo, .int .i64 x.mouth.hi] ∧ (-9223372036854775808 ≤ x.hour ∧ x.hour ≤ 9223372036854775807) ∧ (-9223372036854775808 ≤ x.mouth.lo ∧ x.mouth.lo ≤ 9223372036854775807) ∧ (-9223372036854775808 ≤ x.mouth.hi ∧ x.mouth.hi ≤ 9223372036854775807) ∧ LArg RSpan 2 v0 x.net w
theorem stays_Public : Stays RPublic := fun _ _ _ _ ⟨v0, h0, b0, b1, b2, l0⟩ hb => ⟨v0, h0, b0, b1, b2, l0.below stays_Span hb⟩
theorem struct_Public : (match Tryz.prog.underlying 55 with | some (.struct fs) => some (fs.map fun f => (f.type, f.offset)) | _ => none) = some #[(3, 0), (51, 1), (53, 2)] := by kernel_rfl
theorem cells_Public : Tryz.prog.cellsOf 55 = 4 := by kernel_rfl
theorem Public_of_rd {w : World} (cs : List Value) (h : Rd Tryz.prog w 55 cs) : ∃ x : PublicV, RPublic x cs w := by
 have hl := h.len struct_Public
 rw [cells_Public] at hl
 have h0 := h.field struct_Public (i := 0) (u := 3) (o := 0) (size := 1) rfl (by kernel_rfl)
 have h1 := h.field struct_Public (i := 1) (u := 51) (o := 1) (size := 1) rfl (by kernel_rfl)
 have h2 := h.field struct_Public (i := 2) (u := 53) (o := 2) (size := 2) rfl cells_Span
 match cs, hl with
 | [c0, c1, c2, c3], _ =>
  simp only [List.drop_zero, List.drop_succ_cons, List.take_succ_cons, List.take_zero] at h0 h1 h2
  obtain ⟨x0, e0, b0⟩ := rint_of_rd (w := w) und_I _ h0
  obtain ⟨x1, w1, e1, l1⟩ := rlist_of_rd (w := w) (R := RSpan) (size := 2) und_LP (by kernel_rfl) (by decide) Span_of_rd _ h1
  obtain ⟨x2, e2, b2_0, b2_1⟩ := Span_of_rd (w := w) _ h2
  simp only [List.cons.injEq, and_true] at e0 e1 e2
  exact ⟨⟨x0, x1, x2⟩, w1, by rw [e0, e1, e2.1, e2.2], b0, b2_0, b2_1, l1⟩
theorem arg_pubs {H : Type} {enc : TypeId × Value → H} {W : World} {base : Nat} {v : Value} {d : DataW H} {ps : List MemPlace} (hval : Value.okWide Tryz.prog W .any base 32 v)
 (h : DataW.Trod enc Tryz.prog W 0 (fun _ => true) true 32 v d ps) : ∃ l : List PublicV, LArg RPublic 4 v l W := by
 obtain ⟨a0, len0, cap0, rfl⟩ := Go.WideShapes.okWide_slice und_LS hval
 exact LArg.of_rd und_LS (by kernel_rfl) (by decide) Public_of_rd (Rd.of_trod h)

/-- promises' cells -/
def cellsP (p : PV) : List Value := [.int .i64 p.office, .int .i64 p.since, .int .i64 p.till, .int .i64 p.litres, .int .i64 p.e, .int .i64 p.s]
def RP (p : PV) (cs : List Value) (_ : World) : Prop := cs = cellsP p ∧ POk p
theorem stays_RP : Stays RP := fun _ _ _ _ h _ => h
theorem und_LV : Tryz.prog.underlying 34 = some (.slice 38) := by kernel_rfl
theorem RP_of_rd {w : World} (cs : List Value) (h : Rd Tryz.prog w 38 cs) : ∃ p : PV, RP p cs w := by
 obtain ⟨x, hx⟩ := Promise_of_rd cs h
 exact ⟨pvOf x, promise_cells hx, promise_ok hx⟩
theorem RC_of_rd {w : World} (cs : List Value) (h : Rd Tryz.prog w 63 cs) : ∃ c : CV, RC c cs w := by
 obtain ⟨x, hx⟩ := Claim_of_rd cs h
 exact ⟨cvOf x, claim_cells hx, claim_ok hx⟩
theorem arg_vows {H : Type} {enc : TypeId × Value → H} {W : World} {base : Nat} {v : Value} {d : DataW H} {ps : List MemPlace} (hval : Value.okWide Tryz.prog W .any base 34 v)
 (h : DataW.Trod enc Tryz.prog W 0 (fun _ => true) true 34 v d ps) : ∃ l : List PV, LArg RP 6 v l W := by
 obtain ⟨a0, len0, cap0, rfl⟩ := Go.WideShapes.okWide_slice und_LV hval
 exact LArg.of_rd und_LV (by kernel_rfl) (by decide) RP_of_rd (Rd.of_trod h)
theorem arg_clms {H : Type} {enc : TypeId × Value → H} {W : World} {base : Nat} {v : Value} {d : DataW H} {ps : List MemPlace} (hval : Value.okWide Tryz.prog W .any base 33 v)
 (h : DataW.Trod enc Tryz.prog W 0 (fun _ => true) true 33 v d ps) : ∃ l : List CV, LArg RC 8 v l W := by
 obtain ⟨a0, len0, cap0, rfl⟩ := Go.WideShapes.okWide_slice und_L0 hval
 exact LArg.of_rd und_L0 (by kernel_rfl) (by decide) RC_of_rd (Rd.of_trod h)
/-- a blame's cells: v holds its claims -/
def cellsB (x : BlV) (v : Value) : List Value := [.int .i64 x.office, .int .i64 x.why, v] ++ cellsP x.prom
def BOk (x : BlV) : Prop := I64 x.office ∧ I64 x.why ∧ POk x.prom
def RBl (x : BlV) (cs : List Value) (w : World) : Prop := ∃ v, cs = cellsB x v ∧ BOk x ∧ LArg RC 8 v x.claims w
theorem stays_RBl : Stays RBl := fun _ _ _ _ ⟨v, h1, h2, h3⟩ hb => ⟨v, h1, h2, h3.below stays_RC hb⟩
theorem struct_Bl : (match Tryz.prog.underlying 40 with | some (.struct fs) => some (fs.map fun f => (f.type, f.offset)) | _ => none) = some #[(3, 0), (3, 1), (33, 2), (38, 3)] := by kernel_rfl
theorem cells_Bl : Tryz.prog.cellsOf 40 = 9 := by kernel_rfl
theorem RBl_of_rd {w : World} (cs : List Value) (h : Rd Tryz.prog w 40 cs) : ∃ x : BlV, RBl x cs w := by
 have hl := h.len struct_Bl
 rw [cells_Bl] at hl
 have h0 := h.field struct_Bl (i := 0) (u := 3) (o := 0) (size := 1) rfl (by kernel_rfl)
 have h1 := h.field struct_Bl (i := 1) (u := 3) (o := 1) (size := 1) rfl (by kernel_rfl)
 have h2 := h.field struct_Bl (i := 2) (u := 33) (o := 2) (size := 1) rfl (by kernel_rfl)
 have h3 := h.field struct_Bl (i := 3) (u := 38) (o := 3) (size := 6) rfl cells_Promise
 match cs, hl with
 | [c0, c1, c2, c3, c4, c5, c6, c7, c8], _ =>
  simp only [List.drop_zero, List.drop_succ_cons, List.take_succ_cons, List.take_zero] at h0 h1 h2 h3
  obtain ⟨x0, e0, b0⟩ := rint_of_rd (w := w) und_I _ h0
  obtain ⟨x1, e1, b1⟩ := rint_of_rd (w := w) und_I _ h1
  obtain ⟨x2, v2, e2, l2⟩ := rlist_of_rd (w := w) (R := RC) (size := 8) und_L0 (by kernel_rfl) (by decide) RC_of_rd _ h2
  obtain ⟨x3, e3, b3⟩ := RP_of_rd (w := w) _ h3
  unfold cellsP at e3
  simp only [List.cons.injEq, and_true] at e0 e1 e2 e3
  refine ⟨⟨x0, x1, x2, x3⟩, v2, ?_, ⟨b0, b1, b3⟩, l2⟩
  rw [e0, e1, e2, e3.1, e3.2.1, e3.2.2.1, e3.2.2.2.1, e3.2.2.2.2.1, e3.2.2.2.2.2]
  rfl
theorem arg_blame {H : Type} {enc : TypeId × Value → H} {W : World} {base : Nat} {v : Value} {d : DataW H} {ps : List MemPlace} (hval : Value.okWide Tryz.prog W .any base 40 v)
 (h : DataW.Trod enc Tryz.prog W 0 (fun _ => true) true 40 v d ps) : ∃ (x : BlV) (u : Value), v = .agg (cellsB x u).toArray ∧ BOk x ∧ LArg RC 8 u x.claims W := by
 have hs := struct_Bl
 split at hs
 ·
  next fs hu =>
  obtain ⟨cs, rfl, _⟩ := Go.WideShapes.okWide_struct hu hval
  obtain ⟨x, u, h1, h2, h3⟩ := RBl_of_rd _ (Rd.of_trod h)
  exact ⟨x, u, by rw [← h1]; rfl, h2, h3⟩
 · cases hs
/-- what the audit does not read of a basin -/
structure BsX where
 nm : ByteArray
 k : Int
 a1 : Option Addr
 n1 : Nat
 c1 : Nat
 a3 : Option Addr
 n3 : Nat
 c3 : Nat
 a4 : Option Addr
 n4 : Nat
 c4 : Nat
 a5 : Option Addr
 n5 : Nat
 c5 : Nat
 a6 : Option Addr
 n6 : Nat
 c6 : Nat
 a7 : Option Addr
 n7 : Nat
 c7 : Nat
 a8 : Option Addr
 n8 : Nat
 c8 : Nat
/-- a basin's cells: what the audit does not read, the room and the error -/
def cellsBs (x : BsX) (vr : Value) (err : Int) : List Value := [.string x.nm, .slice x.a1 x.n1 x.c1, .int .i64 x.k, .slice x.a3 x.n3 x.c3, .slice x.a4 x.n4 x.c4, .slice x.a5 x.n5 x.c5, .slice x.a6 x.n6 x.c6, .slice x.a7 x.n7 x.c7, .slice x.a8 x.n8 x.c8, vr, .int .i64 err]
theorem slice_of_rd {P : Program} {w : World} {t e : TypeId} {v : Value} (hu : P.underlying t = some (.slice e)) (h : Rd P w t [v]) : ∃ a n c, v = .slice a n c := by
 rcases h.slice hu with h1 | ⟨a, len, cap, h1, _⟩
 · exact ⟨none, 0, 0, (List.cons.inj h1).1⟩
 · exact ⟨some a, len, cap, (List.cons.inj h1).1⟩
theorem struct_Bs : (match Tryz.prog.underlying 31 with | some (.struct fs) => some (fs.map fun f => (f.type, f.offset)) | _ => none) = some #[(9, 0), (22, 1), (3, 2), (23, 3), (24, 4), (25, 5), (26, 6), (27, 7), (28, 8), (29, 9), (3, 10)] := by kernel_rfl
theorem cells_Bs : Tryz.prog.cellsOf 31 = 11 := by kernel_rfl
theorem und_LI : Tryz.prog.underlying 29 = some (.slice 3) := by kernel_rfl
theorem Bs_of_rd {W : World} (cs : List Value) (h : Rd Tryz.prog W 31 cs) : ∃ (x : BsX) (ar : Option Addr) (nr cr : Nat) (err : Int) (room : List Int), cs = cellsBs x (.slice ar nr cr) err ∧ I64 err ∧ LArg RInt 1 (.slice ar nr cr) room W := by
 have hl := h.len struct_Bs
 rw [cells_Bs] at hl
 have h0 := h.field struct_Bs (i := 0) (u := 9) (o := 0) (size := 1) rfl (by kernel_rfl)
 have h1 := h.field struct_Bs (i := 1) (u := 22) (o := 1) (size := 1) rfl (by kernel_rfl)
 have h2 := h.field struct_Bs (i := 2) (u := 3) (o := 2) (size := 1) rfl (by kernel_rfl)
 have h3 := h.field struct_Bs (i := 3) (u := 23) (o := 3) (size := 1) rfl (by kernel_rfl)
 have h4 := h.field struct_Bs (i := 4) (u := 24) (o := 4) (size := 1) rfl (by kernel_rfl)
 have h5 := h.field struct_Bs (i := 5) (u := 25) (o := 5) (size := 1) rfl (by kernel_rfl)
 have h6 := h.field struct_Bs (i := 6) (u := 26) (o := 6) (size := 1) rfl (by kernel_rfl)
 have h7 := h.field struct_Bs (i := 7) (u := 27) (o := 7) (size := 1) rfl (by kernel_rfl)
 have h8 := h.field struct_Bs (i := 8) (u := 28) (o := 8) (size := 1) rfl (by kernel_rfl)
 have h9 := h.field struct_Bs (i := 9) (u := 29) (o := 9) (size := 1) rfl (by kernel_rfl)
 have h10 := h.field struct_Bs (i := 10) (u := 3) (o := 10) (size := 1) rfl (by kernel_rfl)
 match cs, hl with
 | [v0, v1, v2, v3, v4, v5, v6, v7, v8, v9, v10], _ =>
  simp only [List.drop_zero, List.drop_succ_cons, List.take_succ_cons, List.take_zero] at h0 h1 h2 h3 h4 h5 h6 h7 h8 h9 h10
  obtain ⟨x0, e0, b0⟩ := rstr_of_rd (w := W) und_S _ h0
  obtain ⟨x2, e2, b2⟩ := rint_of_rd (w := W) und_I _ h2
  obtain ⟨a1, n1, c1, e1⟩ := slice_of_rd (e := 9) (by kernel_rfl) h1
  obtain ⟨a3, n3, c3, e3⟩ := slice_of_rd (e := 235) (by kernel_rfl) h3
  obtain ⟨a4, n4, c4, e4⟩ := slice_of_rd (e := 239) (by kernel_rfl) h4
  obtain ⟨a5, n5, c5, e5⟩ := slice_of_rd (e := 241) (by kernel_rfl) h5
  obtain ⟨a6, n6, c6, e6⟩ := slice_of_rd (e := 243) (by kernel_rfl) h6
  obtain ⟨a7, n7, c7, e7⟩ := slice_of_rd (e := 245) (by kernel_rfl) h7
  obtain ⟨a8, n8, c8, e8⟩ := slice_of_rd (e := 247) (by kernel_rfl) h8
  obtain ⟨ar, nr, cr, e9⟩ := slice_of_rd und_LI h9
  obtain ⟨x10, e10, b10⟩ := rint_of_rd (w := W) und_I _ h10
  rw [e9] at h9
  obtain ⟨y, v, e9', l9⟩ := rlist_of_rd (w := W) (R := RInt) (size := 1) und_LI (by kernel_rfl) (by decide) (rint_of_rd und_I) _ h9
  simp only [List.cons.injEq, and_true] at e0 e2 e9' e10
  subst e9'
  refine ⟨⟨x0, x2, a1, n1, c1, a3, n3, c3, a4, n4, c4, a5, n5, c5, a6, n6, c6, a7, n7, c7, a8, n8, c8⟩, ar, nr, cr, x10, y, ?_, b10, l9⟩
  rw [e0, e1, e2, e3, e4, e5, e6, e7, e8, e9, e10]
  rfl
theorem arg_basin {H : Type} {enc : TypeId × Value → H} {W : World} {base : Nat} {v : Value} {d : DataW H} {ps : List MemPlace} (hval : Value.okWide Tryz.prog W .any base 31 v)
 (h : DataW.Trod enc Tryz.prog W 0 (fun _ => true) true 31 v d ps) : ∃ (x : BsX) (ar : Option Addr) (nr cr : Nat) (err : Int) (room : List Int), v = .agg (cellsBs x (.slice ar nr cr) err).toArray ∧ I64 err ∧ LArg RInt 1 (.slice ar nr cr) room W := by
 have hs := struct_Bs
 split at hs
 ·
  next fs hu =>
  obtain ⟨cs, rfl, _⟩ := Go.WideShapes.okWide_struct hu hval
  obtain ⟨x, ar, nr, cr, err, room, h1, h2, h3⟩ := Bs_of_rd _ (Rd.of_trod h)
  exact ⟨x, ar, nr, cr, err, room, by rw [← h1]; rfl, h2, h3⟩
 · cases hs
end Go.Proofs.YtjbjpkhibcnenaaGreatDoor
