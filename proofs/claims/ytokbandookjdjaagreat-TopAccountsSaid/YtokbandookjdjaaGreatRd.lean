/- What came in, read along its types: lists of anything, and that they stay as they are. -/
import Derived.Test.YtokbandookjdjaaGreatOpen
namespace Go.Proofs.YtokbandookjdjaaGreat
open Go.RowKit
/-- v is a slice of l, anywhere in a block that exists; its elements have size cells and read as R says -/
def LArg {α : Type} (R : α → List Value → World → Prop) (size : Nat) (v : Value) (l : List α) (w : World) : Prop :=
  ∃ a c, v = .slice a l.length c ∧ l.length ≤ c ∧ c ≤ maxLen ∧
    ∀ j x, l[j]? = some x → ∃ b o cs, a = some ⟨b, o, none⟩ ∧ b < w.heap.size ∧ cs.length = size ∧ w.rangeAt b (o + j * size) cs ∧ R x cs w
/-- what R reads stays as it is -/
def Stays {α : Type} (R : α → List Value → World → Prop) : Prop := ∀ x cs w w', R x cs w → Below w.heap.size w w' → R x cs w'
theorem range_below {w w' : World} {b o : Nat} {cs : List Value} (h : w.rangeAt b o cs) (hb : Below w.heap.size w w') (hlt : b < w.heap.size) : w'.rangeAt b o cs :=
  fun j v hj => (hb.cell (p := ⟨b, o + j, none⟩) hlt).trans (h j v hj)
theorem LArg.below {α : Type} {R : α → List Value → World → Prop} {size : Nat} {v : Value} {l : List α} {w w' : World} (hR : Stays R) (h : LArg R size v l w) (hb : Below w.heap.size w w') : LArg R size v l w' := by
  obtain ⟨a, c, h1, h2, h3, h⟩ := h
  refine ⟨a, c, h1, h2, h3, fun j x hj => ?_⟩
  obtain ⟨b, o, cs, e1, e2, e3, e4, e5⟩ := h j x hj
  exact ⟨b, o, cs, e1, Nat.lt_of_lt_of_le e2 hb.size, e3, range_below e4 hb e2, hR x cs w w' e5 hb⟩
theorem LArg.slice {α : Type} {R : α → List Value → World → Prop} {size : Nat} {v : Value} {l : List α} {w : World} (h : LArg R size v l w) : ∃ a c, v = .slice a l.length c ∧ l.length ≤ c ∧ c ≤ maxLen := by
  obtain ⟨a, c, h1, h2, h3, _⟩ := h
  exact ⟨a, c, h1, h2, h3⟩
theorem LArg.at {α : Type} {R : α → List Value → World → Prop} {size : Nat} {l : List α} {w : World} {a : Option Addr} {n c : Nat} (h : LArg R size (.slice a n c) l w) {j : Nat} {x : α} (hx : l[j]? = some x) :
    ∃ b o cs, a = some ⟨b, o, none⟩ ∧ b < w.heap.size ∧ cs.length = size ∧ w.rangeAt b (o + j * size) cs ∧ R x cs w := by
  obtain ⟨a', c', h1, _, _, h⟩ := h
  simp only [Value.slice.injEq] at h1
  rw [h1.1]
  exact h j x hx
theorem choose_list {α : Type} (P : Nat → α → Prop) (n : Nat) (h : ∀ i, i < n → ∃ x, P i x) : ∃ xs : List α, xs.length = n ∧ ∀ (i : Nat) x, xs[i]? = some x → P i x := by
  induction n with
  | zero => exact ⟨[], rfl, fun i x hx => by simp at hx⟩
  | succ n ih =>
    obtain ⟨xs, hl, hx⟩ := ih (fun i hi => h i (by omega))
    obtain ⟨y, hy⟩ := h n (by omega)
    refine ⟨xs ++ [y], by simp [hl], fun i x hi => ?_⟩
    by_cases hin : i < n
    · rw [List.getElem?_append_left (by omega)] at hi
      exact hx i x hi
    · rw [List.getElem?_append_right (by omega)] at hi
      have : i - xs.length = 0 := by
        have := (List.getElem?_eq_some_iff.1 hi).1
        simp at this
        omega
      rw [this] at hi
      simp only [List.getElem?_cons_zero, Option.some.injEq] at hi
      subst hi
      have : i = n := by omega
      subst this
      exact hy
theorem spot_mid {w : World} {a : Addr} {v : Value} (h : w.cell? a = some v) : a = ⟨a.block, a.off, none⟩ := by
  obtain ⟨b, o, s⟩ := a
  cases s with
  | none => rfl
  | some k =>
    simp only [World.cell?, Option.isSome_some, if_true] at h
    split at h <;> cases h
theorem LArg.of_rd {P : Program} {w : World} {t e : TypeId} {v : Value} {α : Type} {R : α → List Value → World → Prop} {size : Nat} (hu : P.underlying t = some (.slice e)) (hs : P.cellsOf e = size) (h0 : 0 < size)
    (hR : ∀ cs, Rd P w e cs → ∃ x, R x cs w) (h : Rd P w t [v]) : ∃ l, LArg R size v l w := by
  rcases h.slice hu with h1 | ⟨a, len, cap, h1, hl, hm, hel⟩
  · exact ⟨[], none, 0, (List.cons.inj h1).1, Nat.le_refl _, Nat.zero_le _, fun j x hj => by simp at hj⟩
  · have h1' := (List.cons.inj h1).1
    obtain ⟨xs, hxl, hx⟩ := choose_list (fun i (x : α) => ∃ b o cs, a = ⟨b, o, none⟩ ∧ b < w.heap.size ∧ cs.length = size ∧ w.rangeAt b (o + i * size) cs ∧ R x cs w) len (fun i hi => by
      obtain ⟨cs, h1, h2, h3⟩ := hel i hi
      rw [hs] at h2 h3
      obtain ⟨x, hx⟩ := hR cs h1
      obtain ⟨cs0, _, hl0, h30⟩ := hel 0 (by omega)
      rw [hs] at hl0 h30
      have hsp : a = ⟨a.block, a.off, none⟩ := by
        have := h30 0 (cs0[0]'(by omega)) (List.getElem?_eq_getElem (by omega))
        simp only [Nat.zero_mul, Addr.add, if_true] at this
        exact spot_mid this
      refine ⟨x, a.block, a.off, cs, hsp, ?_, h2, ?_, hx⟩
      · have := cell_lt' (h3 0 _ (List.getElem?_eq_getElem (by omega)))
        rw [hsp, Addr.add_mid, Addr.add_mid] at this
        exact this
      · intro j u hj
        have := h3 j u hj
        rw [hsp, Addr.add_mid, Addr.add_mid] at this
        exact this)
    refine ⟨xs, some a, cap, by rw [hxl]; exact h1', by omega, hm, fun j x hj => ?_⟩
    obtain ⟨b, o, cs, e1, e2⟩ := hx j x hj
    exact ⟨b, o, cs, by rw [e1], e2⟩
/-- an integer's cell -/
def RInt (x : Int) (cs : List Value) (_ : World) : Prop := cs = [.int .i64 x] ∧ -9223372036854775808 ≤ x ∧ x ≤ 9223372036854775807
def RBool (x : Bool) (cs : List Value) (_ : World) : Prop := cs = [.bool x]
def RStr (x : ByteArray) (cs : List Value) (_ : World) : Prop := cs = [.string x] ∧ x.size ≤ maxLen
def RList {α : Type} (R : α → List Value → World → Prop) (size : Nat) (l : List α) (cs : List Value) (w : World) : Prop := ∃ v, cs = [v] ∧ LArg R size v l w
theorem stays_int : Stays RInt := fun _ _ _ _ h _ => h
theorem stays_bool : Stays RBool := fun _ _ _ _ h _ => h
theorem stays_str : Stays RStr := fun _ _ _ _ h _ => h
theorem stays_list {α : Type} {R : α → List Value → World → Prop} (hR : Stays R) (size : Nat) : Stays (RList R size) := fun _ _ _ _ ⟨v, h1, h2⟩ hb => ⟨v, h1, h2.below hR hb⟩
theorem rint_of_rd {P : Program} {w : World} {t : TypeId} (ht : P.underlying t = some (.int .i64)) (cs : List Value) (h : Rd P w t cs) : ∃ x, RInt x cs w := by
  obtain ⟨n, h1, h2⟩ := h.i64 ht
  exact ⟨n, h1, h2⟩
theorem rbool_of_rd {P : Program} {w : World} {t : TypeId} (ht : P.underlying t = some .bool) (cs : List Value) (h : Rd P w t cs) : ∃ x, RBool x cs w := h.bool ht
theorem rstr_of_rd {P : Program} {w : World} {t : TypeId} (ht : P.underlying t = some .string) (cs : List Value) (h : Rd P w t cs) : ∃ x, RStr x cs w := by
  obtain ⟨n, h1, h2⟩ := h.str ht
  exact ⟨n, h1, h2⟩
theorem rlist_of_rd {P : Program} {w : World} {t e : TypeId} {α : Type} {R : α → List Value → World → Prop} {size : Nat} (hu : P.underlying t = some (.slice e)) (hs : P.cellsOf e = size) (h0 : 0 < size)
    (hR : ∀ cs, Rd P w e cs → ∃ x, R x cs w) (cs : List Value) (h : Rd P w t cs) : ∃ l, RList R size l cs w := by
  have hv : ∃ v, cs = [v] := by
    rcases h.slice hu with h1 | ⟨a, len, cap, h1, _⟩
    · exact ⟨_, h1⟩
    · exact ⟨_, h1⟩
  obtain ⟨v, rfl⟩ := hv
  obtain ⟨l, hl⟩ := LArg.of_rd hu hs h0 hR h
  exact ⟨l, v, rfl, hl⟩
theorem field_of {fs : Array Field} {L : Array (TypeId × Nat)} (h : (fs.map fun f => (f.type, f.offset)) = L) {i : Nat} {t : TypeId} {o : Nat} (hp : L[i]? = some (t, o)) : ∃ f, fs[i]? = some f ∧ f.type = t ∧ f.offset = o := by
  rw [← h, Array.getElem?_map, Option.map_eq_some_iff] at hp
  obtain ⟨f, hf, he⟩ := hp
  simp only [Prod.mk.injEq] at he
  exact ⟨f, hf, he.1, he.2⟩
/-- a struct's field, read -/
theorem Rd.field {P : Program} {w : World} {t : TypeId} {L : Array (TypeId × Nat)} {cs : List Value} (h : Rd P w t cs) (hs : (match P.underlying t with | some (.struct fs) => some (fs.map fun f => (f.type, f.offset)) | _ => none) = some L)
    {i : Nat} {u : TypeId} {o size : Nat} (hp : L[i]? = some (u, o)) (hc : P.cellsOf u = size) : Rd P w u ((cs.drop o).take size) := by
  split at hs
  · next fs hu =>
    obtain ⟨f, hf, ht, ho⟩ := field_of (Option.some.inj hs) hp
    have := (h.struct hu).2 i f hf
    rw [ht, ho, hc] at this
    exact this
  · cases hs
theorem Rd.len {P : Program} {w : World} {t : TypeId} {L : Array (TypeId × Nat)} {cs : List Value} (h : Rd P w t cs) (hs : (match P.underlying t with | some (.struct fs) => some (fs.map fun f => (f.type, f.offset)) | _ => none) = some L) : cs.length = P.cellsOf t := by
  split at hs
  · next fs hu => exact (h.struct hu).1
  · cases hs
end Go.Proofs.YtokbandookjdjaaGreat
