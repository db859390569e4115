/- audit.newSearch: a search that grows: slices of its own, side by side. -/
import Derived.Maps.AppendAt
import Derived.Test.YtjbjpkhibcnenaaGreatDoorAFindH
namespace Go.Proofs.YtjbjpkhibcnenaaGreatDoor
open Go.RowKit
def flC (l : List CV) : List Value := l.flatMap cellsC
def flP (l : List PV) : List Value := l.flatMap cellsP
theorem flC_len (l : List CV) : (flC l).length = l.length * 8 := by
  unfold flC
  induction l with
  | nil => rfl
  | cons s l ih =>
    have h8 : (cellsC s).length = 8 := rfl
    rw [List.flatMap_cons, List.length_append, ih, h8, List.length_cons]
    omega
theorem flP_len (l : List PV) : (flP l).length = l.length * 6 := by
  unfold flP
  induction l with
  | nil => rfl
  | cons s l ih =>
    have h8 : (cellsP s).length = 6 := rfl
    rw [List.flatMap_cons, List.length_append, ih, h8, List.length_cons]
    omega
theorem flatP_get : ∀ (l : List PV) (k : Nat) (x : PV), l[k]? = some x → ∀ j v, (cellsP x)[j]? = some v → (l.flatMap cellsP)[k * 6 + j]? = some v
  | [], k, x, h, _, _, _ => by simp at h
  | y :: l, 0, x, h, j, v, hj => by
    simp only [List.getElem?_cons_zero, Option.some.injEq] at h
    subst h
    have hl := (List.getElem?_eq_some_iff.1 hj).1
    rw [List.flatMap_cons, Nat.zero_mul, Nat.zero_add, List.getElem?_append_left hl, hj]
  | y :: l, k + 1, x, h, j, v, hj => by
    have h8 : (cellsP y).length = 6 := rfl
    rw [List.flatMap_cons, List.getElem?_append_right (by rw [h8]; omega), h8]
    have e : (k + 1) * 6 + j - 6 = k * 6 + j := by omega
    rw [e]
    exact flatP_get l k x (by simpa using h) j v hj
theorem larg_ownC {c : World} {base n : Nat} {v : Value} {l : List CV} (h : c.ownsRow base 63 8 v n (flC l)) (hx : ∀ x ∈ l, CGood x) : ∃ a k, v = .slice a l.length k ∧ LArg RC 8 (.slice a l.length k) l c := by
  have hn : n = l.length := by have := h.1; rw [flC_len] at this; omega
  subst hn
  rcases h.2 with ⟨rfl, h0⟩ | ⟨g, cap, cur, rfl, _, hg, hc, hm, hs, ht⟩
  · rw [h0]
    refine ⟨none, 0, rfl, none, 0, by rw [h0], by omega, by unfold maxLen; omega, fun j x hj => ?_⟩
    rw [List.eq_nil_of_length_eq_zero h0] at hj
    simp at hj
  · refine ⟨_, _, rfl, _, _, rfl, hc, hm, fun j x hj => ⟨g, 0, cellsC x, rfl, blk_lt hg, rfl, ?_, rfl, hx x (List.mem_of_getElem? hj)⟩⟩
    intro i u hi
    have h1 := cell_of_row _ _ (0 + j * 8 + i) _ _ _ hg
    rw [← Array.getElem?_toList] at h1
    refine h1.trans ?_
    have h2 := flatC_get l j x hj i u hi
    have h3 : (flC l)[j * 8 + i]? = some u := h2
    rw [← ht, List.getElem?_take] at h3
    split at h3
    · rw [Nat.zero_add]; exact h3
    · cases h3
theorem larg_ownP {c : World} {base n : Nat} {v : Value} {l : List PV} (h : c.ownsRow base 38 6 v n (flP l)) (hx : ∀ x ∈ l, POk x) : ∃ a k, v = .slice a l.length k ∧ LArg RP 6 (.slice a l.length k) l c := by
  have hn : n = l.length := by have := h.1; rw [flP_len] at this; omega
  subst hn
  rcases h.2 with ⟨rfl, h0⟩ | ⟨g, cap, cur, rfl, _, hg, hc, hm, hs, ht⟩
  · rw [h0]
    refine ⟨none, 0, rfl, none, 0, by rw [h0], by omega, by unfold maxLen; omega, fun j x hj => ?_⟩
    rw [List.eq_nil_of_length_eq_zero h0] at hj
    simp at hj
  · refine ⟨_, _, rfl, _, _, rfl, hc, hm, fun j x hj => ⟨g, 0, cellsP x, rfl, blk_lt hg, rfl, ?_, rfl, hx x (List.mem_of_getElem? hj)⟩⟩
    intro i u hi
    have h1 := cell_of_row _ _ (0 + j * 6 + i) _ _ _ hg
    rw [← Array.getElem?_toList] at h1
    refine h1.trans ?_
    have h2 := flatP_get l j x hj i u hi
    have h3 : (flP l)[j * 6 + i]? = some u := h2
    rw [← ht, List.getElem?_take] at h3
    split at h3
    · rw [Nat.zero_add]; exact h3
    · cases h3
theorem grown_of_below {c c' : World} (h : Below c.heap.size c c') (r : Option Nat) : c.grownBy c' r := ⟨h.os, h.tape, h.output, h.size, fun k hk _ => h.block k hk⟩
def tyQ (q : Nat) : TypeId := if q < 3 then 63 else 38
def szQ (q : Nat) : Nat := if q < 3 then 8 else 6
def upd {α : Type} (f : Nat → α) (q : Nat) (v : α) : Nat → α := fun r => if r = q then v else f r
theorem upd_same {α : Type} (f : Nat → α) (q : Nat) (v : α) : upd f q v q = v := if_pos rfl
theorem upd_other {α : Type} (f : Nat → α) {q r : Nat} (v : α) (h : r ≠ q) : upd f q v r = f r := if_neg h
def sRow (jp : Value) (vs : Nat → Value) (last : Int) : Array Value := #[jp, vs 0, vs 1, vs 2, vs 3, .int .i64 last]
theorem sRow_upd (jp : Value) (vs : Nat → Value) (last : Int) (v : Value) : ∀ q, q < 4 → (sRow jp vs last).setIfInBounds (1 + q) v = sRow jp (upd vs q v) last
  | 0, _ => rfl
  | 1, _ => rfl
  | 2, _ => rfl
  | 3, _ => rfl
/-- a search in block sb, with slices vs of its own -/
structure NS (w : World) (jp : Value) (sb : Nat) (vs : Nat → Value) (ns : Nat → Nat) (xs : Nat → List Value) (last : Int) (c : World) : Prop where
  row : c.heap[sb]? = some (.cells (sRow jp vs last) 99 (0, 0))
  owns : ∀ q, q < 4 → c.ownsRow w.heap.size (tyQ q) (szQ q) (vs q) (ns q) (xs q)
  ne : ∀ q r, q < 4 → r < 4 → q ≠ r → ∀ g, (vs q).ownBlock = some g → (vs r).ownBlock ≠ some g
  nsb : ∀ q, q < 4 → (vs q).ownBlock ≠ some sb
  sbw : w.heap.size ≤ sb
  below : Below w.heap.size w c
section
variable {w : World} {jp : Value} {sb : Nat} {vs : Nat → Value} {ns : Nat → Nat} {xs : Nat → List Value} {last : Int} {c c' : World}
theorem NS.start (h : c.heap[sb]? = some (.cells #[jp, .slice none 0 0, .slice none 0 0, .slice none 0 0, .slice none 0 0, .int .i64 0] 99 (0, 0))) (hs : w.heap.size ≤ sb) (hb : Below w.heap.size w c) : NS w jp sb (fun _ => .slice none 0 0) (fun _ => 0) (fun _ => []) 0 c :=
  ⟨h, fun q _ => World.ownsRow_nil _ _ _ _, fun q r _ _ _ g hg => by simp [Value.ownBlock] at hg, fun q _ => by simp [Value.ownBlock], hs, hb⟩
theorem NS.step (h : NS w jp sb vs ns xs last c) (hb : Below c.heap.size c c') : NS w jp sb vs ns xs last c' :=
  ⟨blk_below h.row hb (blk_lt h.row), fun q hq => (h.owns q hq).kept (grown_of_below hb none) (by cases (vs q).ownBlock <;> simp), h.ne, h.nsb, h.sbw, h.below.trans (hb.mono h.below.size)⟩
theorem NS.grownSelf (_h : NS w jp sb vs ns xs last c) (v : Value) (i : Nat) : c.grownBy (c.setCell ⟨sb, i, none⟩ v) (some sb) :=
  ⟨rfl, rfl, rfl, by simp, fun k _ hk => heap_setCell_other _ _ _ _ (fun e => hk (by rw [e]))⟩
theorem NS.setLast (h : NS w jp sb vs ns xs last c) (l2 : Int) : NS w jp sb vs ns xs l2 (c.setCell ⟨sb, 5, none⟩ (.int .i64 l2)) :=
  ⟨by rw [heap_setCell_same _ _ _ _ _ _ h.row]; rfl, fun q hq => (h.owns q hq).kept (h.grownSelf _ 5) (Or.inr (h.nsb q hq)), h.ne, h.nsb, h.sbw, h.below.grown (h.grownSelf _ 5) h.below.size (fun k e => by cases e; exact h.sbw)⟩
/-- one slice grew, in its place or in a new block, and is stored -/
theorem NS.app (h : NS w jp sb vs ns xs last c) {q n' : Nat} (hq : q < 4) {v' : Value} {ys : List Value} (hg : c.grownBy c' (vs q).ownBlock) (ho : c'.ownsRow w.heap.size (tyQ q) (szQ q) v' n' ys) (hat : v'.ownBlock = (vs q).ownBlock ∨ v'.ownBlock = some c.heap.size) :
    c'.heap[sb]? = some (.cells (sRow jp vs last) 99 (0, 0)) ∧ NS w jp sb (upd vs q v') (upd ns q n') (upd xs q ys) last (c'.setCell ⟨sb, 1 + q, none⟩ v') := by
  have hsb := blk_lt h.row
  have hrow : c'.heap[sb]? = some (.cells (sRow jp vs last) 99 (0, 0)) := (hg.block sb hsb (fun e => h.nsb q hq e.symm)).trans h.row
  refine ⟨hrow, ?_⟩
  have hnv : v'.ownBlock ≠ some sb := by
    rcases hat with e | e
    · rw [e]; exact h.nsb q hq
    · rw [e]; intro e2; simp only [Option.some.injEq] at e2; omega
  have hgs : c'.grownBy (c'.setCell ⟨sb, 1 + q, none⟩ v') (some sb) := ⟨rfl, rfl, rfl, by simp, fun k _ hk => heap_setCell_other _ _ _ _ (fun e => hk (by rw [e]))⟩
  have hlt : ∀ r, r < 4 → ∀ g, (vs r).ownBlock = some g → g < c.heap.size := fun r hr g e => ((h.owns r hr).lt g e).2
  refine ⟨?_, fun r hr => ?_, fun a b ha hb hab g e1 e2 => ?_, fun r hr => ?_, h.sbw, ?_⟩
  · rw [heap_setCell_same _ _ _ _ _ _ hrow, sRow_upd _ _ _ _ q hq]
  · by_cases e : r = q
    · subst e
      rw [upd_same, upd_same, upd_same]
      exact ho.kept hgs (Or.inr hnv)
    · rw [upd_other _ _ e, upd_other _ _ e, upd_other _ _ e]
      refine ((h.owns r hr).kept hg ?_).kept hgs (Or.inr (h.nsb r hr))
      cases hv : (vs r).ownBlock with
      | none => exact Or.inl rfl
      | some g => exact Or.inr (fun e2 => h.ne r q hr hq e g hv e2.symm)
  · by_cases ea : a = q
    · subst ea
      have eb : b ≠ a := fun x => hab x.symm
      rw [upd_same] at e1
      rw [upd_other _ _ eb] at e2
      rcases hat with e | e
      · exact h.ne a b ha hb hab g (e.symm.trans e1) e2
      · have := hlt b hb g e2
        rw [e1] at e
        simp only [Option.some.injEq] at e
        omega
    · rw [upd_other _ _ ea] at e1
      by_cases eb : b = q
      · subst eb
        rw [upd_same] at e2
        rcases hat with e | e
        · exact h.ne a b ha hb hab g e1 (e.symm.trans e2)
        · have := hlt a ha g e1
          rw [e2] at e
          simp only [Option.some.injEq] at e
          omega
      · rw [upd_other _ _ eb] at e2
        exact h.ne a b ha hb hab g e1 e2
  · by_cases e : r = q
    · subst e; rw [upd_same]; exact hnv
    · rw [upd_other _ _ e]; exact h.nsb r hr
  · exact (h.below.grown hg h.below.size (fun k e => ((h.owns q hq).lt k e).1)).grown hgs (Nat.le_trans h.below.size hg.size) (fun k e => by cases e; exact h.sbw)
end
/-- the elements of the four slices -/
def xsQ (L : Nat → List CV) (V : List PV) (q : Nat) : List Value := if q < 3 then flC (L q) else if q = 3 then flP V else []
def nsQ (L : Nat → List CV) (V : List PV) (q : Nat) : Nat := if q < 3 then (L q).length else if q = 3 then V.length else 0
/-- the greatest hour of a claim that counts -/
def lastN (J : JV) (l : List CV) : Int := (l.filter J.K).foldl (fun m c => max m c.hour) 0
theorem lastN_snoc {J : JV} {l : List CV} {k : Nat} {c : CV} (h : l[k]? = some c) : lastN J (l.take (k + 1)) = if J.K c = true then max (lastN J (l.take k)) c.hour else lastN J (l.take k) := by
  unfold lastN
  rw [List.take_add_one, h, Option.toList_some, List.filter_append, List.foldl_append]
  cases hk : J.K c <;> simp [hk]
theorem clO_snoc {J : JV} {l : List CV} {k : Nat} {c : CV} (h : l[k]? = some c) (o : Int) : clO J (l.take (k + 1)) o = if J.K c = true ∧ c.office = o then clO J (l.take k) o ++ [c] else clO J (l.take k) o := by
  unfold clO
  rw [List.take_add_one, h, Option.toList_some, List.filter_append]
  by_cases e : J.K c = true ∧ c.office = o
  · simp [e.1, e.2]
  · rw [if_neg e]
    simp only [List.filter_cons, List.filter_nil, Bool.and_eq_true, decide_eq_true_eq]
    rw [if_neg e, List.append_nil]
theorem lastN_ge {J : JV} : ∀ (l : List CV) (m : Int), m ≤ (l.filter J.K).foldl (fun m c => max m c.hour) m ∧ ∀ c ∈ l, J.K c = true → c.hour ≤ (l.filter J.K).foldl (fun m c => max m c.hour) m
  | [], m => ⟨Int.le_refl _, fun c hc => by simp at hc⟩
  | d :: l, m => by
    rw [List.filter_cons]
    cases hd : J.K d with
    | true =>
      rw [if_pos rfl, List.foldl_cons]
      obtain ⟨h1, h2⟩ := lastN_ge (J := J) l (max m d.hour)
      refine ⟨by omega, fun c hc hk => ?_⟩
      rcases List.mem_cons.1 hc with rfl | hc
      · omega
      · exact h2 c hc hk
    | false =>
      rw [if_neg (by decide)]
      obtain ⟨h1, h2⟩ := lastN_ge (J := J) l m
      refine ⟨h1, fun c hc hk => ?_⟩
      rcases List.mem_cons.1 hc with rfl | hc
      · rw [hd] at hk; cases hk
      · exact h2 c hc hk
theorem lastN_le {J : JV} {B : Int} : ∀ (l : List CV) (m : Int), m ≤ B → (∀ c ∈ l, J.K c = true → c.hour ≤ B) → (l.filter J.K).foldl (fun m c => max m c.hour) m ≤ B
  | [], m, hm, _ => hm
  | d :: l, m, hm, h => by
    rw [List.filter_cons]
    have ih := fun m2 hm2 => lastN_le (J := J) (B := B) l m2 hm2 (fun c hc => h c (List.mem_cons_of_mem _ hc))
    cases hd : J.K d with
    | true =>
      rw [if_pos rfl, List.foldl_cons]
      have := h d (List.mem_cons_self ..) hd
      exact ih _ (by omega)
    | false => rw [if_neg (by decide)]; exact ih _ hm
theorem brokeL_eq (J : JV) (L : List CV) (vows : List PV) (o : Int) : brokeV J L (vows.filter J.V) o = brokeL J L vows o := by
  unfold brokeV brokeL
  induction vows with
  | nil => rfl
  | cons p l ih =>
    rw [List.filter_cons, List.findSome?_cons]
    cases hp : J.V p with
    | true =>
      rw [if_pos rfl, List.findSome?_cons, ih]
      by_cases e : p.office = o <;> simp [e]
    | false =>
      rw [if_neg (by decide), ih]
      simp
end Go.Proofs.YtjbjpkhibcnenaaGreatDoor

