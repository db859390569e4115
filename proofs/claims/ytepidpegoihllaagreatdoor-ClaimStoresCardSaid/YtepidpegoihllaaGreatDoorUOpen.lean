/- Texts merged: Open Rd UOpen -/
import Derived.OpenShut
import Derived.ChangeArms
import Derived.ChangeSame
import Derived.Carry
import Derived.Deep.MidRow
import Derived.KernelRfl
import Derived.Test.YtepidpegoihllaaGreatDoorProg
import Derived.Test.YtepidpegoihllaaGreatDoorUExact
/- Arguments that came in, opened along their types: integers, bools, strings, slices, structs. For any program. -/
namespace Go.Proofs.YtepidpegoihllaaGreatDoor
/-- the cells cs can be read at type t in w -/
def Rd (P : Program) (w : World) (t : TypeId) (cs : List Value) : Prop :=
  ∃ (H : Type) (enc : TypeId × Value → H) (n : Nat) (x : DataW H × List MemPlace), DataW.trod enc P w 0 (fun _ => true) true n t cs = some x
theorem Rd.of_trod {H : Type} {enc : TypeId × Value → H} {P : Program} {w : World} {t : TypeId} {v : Value} {d : DataW H} {ps : List MemPlace} (h : DataW.Trod enc P w 0 (fun _ => true) true t v d ps) : Rd P w t v.cells.toList := by
  obtain ⟨n, h⟩ := h
  exact ⟨H, enc, n, _, h⟩
theorem Rd.int {P : Program} {w : World} {t : TypeId} {cs : List Value} {k : IntKind} (ht : P.underlying t = some (.int k)) (h : Rd P w t cs) : ∃ n, cs = [.int k n] ∧ (Lit.int k n).wf = true := by
  obtain ⟨H, enc, n, x, h⟩ := h
  obtain ⟨n, h1, _, h2⟩ := DataW.trod_int ht h
  exact ⟨n, h1, h2⟩
theorem Rd.i64 {P : Program} {w : World} {t : TypeId} {cs : List Value} (ht : P.underlying t = some (.int .i64)) (h : Rd P w t cs) : ∃ n : Int, cs = [.int .i64 n] ∧ -9223372036854775808 ≤ n ∧ n ≤ 9223372036854775807 := by
  obtain ⟨n, h1, h2⟩ := h.int ht
  refine ⟨n, h1, ?_⟩
  simpa [Lit.wf, IntKind.min, IntKind.max, IntKind.signed, IntKind.bits] using h2
theorem Rd.str {P : Program} {w : World} {t : TypeId} {cs : List Value} (ht : P.underlying t = some .string) (h : Rd P w t cs) : ∃ s : ByteArray, cs = [.string s] ∧ s.size ≤ maxLen := by
  obtain ⟨H, enc, n, x, h⟩ := h
  obtain ⟨s, h1, _, h2⟩ := DataW.trod_string ht h
  exact ⟨s, h1, h2⟩
theorem trod_bool {H : Type} {enc : TypeId × Value → H} {P : Program} {w : World} {base : Nat} {spare : Nat → Bool} {held : Bool} {fuel : Nat} {t : TypeId} {cs : List Value} {x : DataW H × List MemPlace}
    (ht : P.underlying t = some .bool) (h : DataW.trod enc P w base spare held fuel t cs = some x) : ∃ b, cs = [.bool b] := by
  cases fuel with
  | zero => simp [DataW.trod] at h
  | succ n =>
    unfold DataW.trod at h
    rw [ht] at h
    split at h <;> simp_all
theorem Rd.bool {P : Program} {w : World} {t : TypeId} {cs : List Value} (ht : P.underlying t = some .bool) (h : Rd P w t cs) : ∃ b, cs = [.bool b] := by
  obtain ⟨H, enc, n, x, h⟩ := h
  exact trod_bool ht h
theorem cells_at {w : World} {a : Addr} {n : Nat} {cs : List Value} (h : w.cells? 0 a n = some cs) : cs.length = n ∧ ∀ j u, cs[j]? = some u → w.cell? (a.add j) = some u := by
  obtain ⟨_, hl, hc⟩ := World.cells?_some h
  refine ⟨hl, fun j u hj => ?_⟩
  have hjl : j < n := by have := (List.getElem?_eq_some_iff.1 hj).1; omega
  rw [← hj]
  exact hc j hjl
theorem Rd.slice {P : Program} {w : World} {t e : TypeId} {cs : List Value} (ht : P.underlying t = some (.slice e)) (h : Rd P w t cs) :
    cs = [.slice none 0 0] ∨ ∃ (a : Addr) (len cap : Nat), cs = [.slice (some a) len cap] ∧ len ≤ cap ∧ cap ≤ maxLen ∧
      ∀ i, i < len → ∃ cs', Rd P w e cs' ∧ cs'.length = P.cellsOf e ∧ ∀ j u, cs'[j]? = some u → w.cell? ((a.add (i * P.cellsOf e)).add j) = some u := by
  obtain ⟨H, enc, n, x, h⟩ := h
  rcases DataW.trod_slice ht h with ⟨h0, _⟩ | ⟨a, len, cap, elems, rest, n, _, rfl, _, _, hl, hm, hlen, hel, _, _⟩
  · exact Or.inl h0
  · refine Or.inr ⟨a, len, cap, rfl, hl, hm, fun i hi => ?_⟩
    have h1 := hel i hi
    rw [List.getElem?_eq_getElem (by omega)] at h1
    obtain ⟨cs', h2, h3⟩ := Option.bind_eq_some_iff.1 h1
    obtain ⟨h4, h5⟩ := cells_at h2
    exact ⟨cs', ⟨H, enc, n, _, h3⟩, h4, h5⟩
theorem Rd.struct {P : Program} {w : World} {t : TypeId} {fs : Array Field} {cs : List Value} (ht : P.underlying t = some (.struct fs)) (h : Rd P w t cs) :
    cs.length = P.cellsOf t ∧ ∀ (i : Nat) (f : Field), fs[i]? = some f → Rd P w f.type ((cs.drop f.offset).take (P.cellsOf f.type)) := by
  obtain ⟨H, enc, n, x, h⟩ := h
  obtain ⟨xs, n, _, _, hl, hlen, hf⟩ := DataW.trod_struct ht h
  refine ⟨hl, fun i f hi => ?_⟩
  have h1 := hf i f hi
  have hil : i < xs.length := by have := (Array.getElem?_eq_some_iff.1 hi).1; omega
  rw [List.getElem?_eq_getElem hil] at h1
  exact ⟨H, enc, n, _, h1⟩
theorem cell_lt' {w : World} {a : Addr} {v : Value} (h : w.cell? a = some v) : a.block < w.heap.size := by
  rcases Nat.lt_or_ge a.block w.heap.size with h' | h'
  · exact h'
  · simp [World.cell?, Array.getElem?_eq_none h'] at h
end Go.Proofs.YtepidpegoihllaaGreatDoor
/- What came in, read along its types: lists of anything, and that they stay as they are. -/
namespace Go.Proofs.YtepidpegoihllaaGreatDoor
open Go.RowKit
/-- v is a slice of l, anywhere in a block that exists; its elements have size cells and read as R says -/
def LArg {α : Type} (R : α → List Value → World → Prop) (size : Nat) (v : Value) (l : List α) (w : World) : Prop :=
  ∃ a c, v = .slice a l.length c ∧ l.length ≤ c ∧ c ≤ maxLen ∧
    ∀ j x, l[j]? = some x → ∃ b o cs, a = some ⟨b, o, none⟩ ∧ b < w.heap.size ∧ cs.length = size ∧ w.rangeAt b (o + j * size) cs ∧ R x cs w
/-- what R reads stays as it is -/
def Stays {α : Type} (R : α → List Value → World → Prop) : Prop := ∀ x cs w w', R x cs w → Below w.heap.size w w' → R x cs w'
theorem range_below {w w' : World} {b o : Nat} {cs : List Value} (h : w.rangeAt b o cs) (hb : Below w.heap.size w w') (hlt : b < w.heap.size) : w'.rangeAt b o cs :=
  fun j v hj => (hb.cell (p := ⟨b, o + j, none⟩) hlt).trans (h j v hj)
theorem LArg.below {α : Type} {R : α → List Value → World → Prop} {size : Nat} {v : Value} {l : List α} {w w' : World} (hR : Stays R) (h : LArg R size v l w) (hb : Below w.heap.size w w') : LArg R size v l w' := by
  obtain ⟨a, c, h1, h2, h3, h⟩ := h
  refine ⟨a, c, h1, h2, h3, fun j x hj => ?_⟩
  obtain ⟨b, o, cs, e1, e2, e3, e4, e5⟩ := h j x hj
  exact ⟨b, o, cs, e1, Nat.lt_of_lt_of_le e2 hb.size, e3, range_below e4 hb e2, hR x cs w w' e5 hb⟩
theorem LArg.slice {α : Type} {R : α → List Value → World → Prop} {size : Nat} {v : Value} {l : List α} {w : World} (h : LArg R size v l w) : ∃ a c, v = .slice a l.length c ∧ l.length ≤ c ∧ c ≤ maxLen := by
  obtain ⟨a, c, h1, h2, h3, _⟩ := h
  exact ⟨a, c, h1, h2, h3⟩
theorem LArg.at {α : Type} {R : α → List Value → World → Prop} {size : Nat} {l : List α} {w : World} {a : Option Addr} {n c : Nat} (h : LArg R size (.slice a n c) l w) {j : Nat} {x : α} (hx : l[j]? = some x) :
    ∃ b o cs, a = some ⟨b, o, none⟩ ∧ b < w.heap.size ∧ cs.length = size ∧ w.rangeAt b (o + j * size) cs ∧ R x cs w := by
  obtain ⟨a', c', h1, _, _, h⟩ := h
  simp only [Value.slice.injEq] at h1
  rw [h1.1]
  exact h j x hx
theorem choose_list {α : Type} (P : Nat → α → Prop) (n : Nat) (h : ∀ i, i < n → ∃ x, P i x) : ∃ xs : List α, xs.length = n ∧ ∀ (i : Nat) x, xs[i]? = some x → P i x := by
  induction n with
  | zero => exact ⟨[], rfl, fun i x hx => by simp at hx⟩
  | succ n ih =>
    obtain ⟨xs, hl, hx⟩ := ih (fun i hi => h i (by omega))
    obtain ⟨y, hy⟩ := h n (by omega)
    refine ⟨xs ++ [y], by simp [hl], fun i x hi => ?_⟩
    by_cases hin : i < n
    · rw [List.getElem?_append_left (by omega)] at hi
      exact hx i x hi
    · rw [List.getElem?_append_right (by omega)] at hi
      have : i - xs.length = 0 := by
        have := (List.getElem?_eq_some_iff.1 hi).1
        simp at this
        omega
      rw [this] at hi
      simp only [List.getElem?_cons_zero, Option.some.injEq] at hi
      subst hi
      have : i = n := by omega
      subst this
      exact hy
theorem spot_mid {w : World} {a : Addr} {v : Value} (h : w.cell? a = some v) : a = ⟨a.block, a.off, none⟩ := by
  obtain ⟨b, o, s⟩ := a
  cases s with
  | none => rfl
  | some k =>
    simp only [World.cell?, Option.isSome_some, if_true] at h
    split at h <;> cases h
theorem LArg.of_rd {P : Program} {w : World} {t e : TypeId} {v : Value} {α : Type} {R : α → List Value → World → Prop} {size : Nat} (hu : P.underlying t = some (.slice e)) (hs : P.cellsOf e = size) (h0 : 0 < size)
    (hR : ∀ cs, Rd P w e cs → ∃ x, R x cs w) (h : Rd P w t [v]) : ∃ l, LArg R size v l w := by
  rcases h.slice hu with h1 | ⟨a, len, cap, h1, hl, hm, hel⟩
  · exact ⟨[], none, 0, (List.cons.inj h1).1, Nat.le_refl _, Nat.zero_le _, fun j x hj => by simp at hj⟩
  · have h1' := (List.cons.inj h1).1
    obtain ⟨xs, hxl, hx⟩ := choose_list (fun i (x : α) => ∃ b o cs, a = ⟨b, o, none⟩ ∧ b < w.heap.size ∧ cs.length = size ∧ w.rangeAt b (o + i * size) cs ∧ R x cs w) len (fun i hi => by
      obtain ⟨cs, h1, h2, h3⟩ := hel i hi
      rw [hs] at h2 h3
      obtain ⟨x, hx⟩ := hR cs h1
      obtain ⟨cs0, _, hl0, h30⟩ := hel 0 (by omega)
      rw [hs] at hl0 h30
      have hsp : a = ⟨a.block, a.off, none⟩ := by
        have := h30 0 (cs0[0]'(by omega)) (List.getElem?_eq_getElem (by omega))
        simp only [Nat.zero_mul, Addr.add, if_true] at this
        exact spot_mid this
      refine ⟨x, a.block, a.off, cs, hsp, ?_, h2, ?_, hx⟩
      · have := cell_lt' (h3 0 _ (List.getElem?_eq_getElem (by omega)))
        rw [hsp, Addr.add_mid, Addr.add_mid] at this
        exact this
      · intro j u hj
        have := h3 j u hj
        rw [hsp, Addr.add_mid, Addr.add_mid] at this
        exact this)
    refine ⟨xs, some a, cap, by rw [hxl]; exact h1', by omega, hm, fun j x hj => ?_⟩
    obtain ⟨b, o, cs, e1, e2⟩ := hx j x hj
    exact ⟨b, o, cs, by rw [e1], e2⟩
/-- an integer's cell -/
def RInt (x : Int) (cs : List Value) (_ : World) : Prop := cs = [.int .i64 x] ∧ -9223372036854775808 ≤ x ∧ x ≤ 9223372036854775807
def RBool (x : Bool) (cs : List Value) (_ : World) : Prop := cs = [.bool x]
def RStr (x : ByteArray) (cs : List Value) (_ : World) : Prop := cs = [.string x] ∧ x.size ≤ maxLen
def RList {α : Type} (R : α → List Value → World → Prop) (size : Nat) (l : List α) (cs : List Value) (w : World) : Prop := ∃ v, cs = [v] ∧ LArg R size v l w
theorem stays_int : Stays RInt := fun _ _ _ _ h _ => h
theorem stays_str : Stays RStr := fun _ _ _ _ h _ => h
theorem stays_list {α : Type} {R : α → List Value → World → Prop} (hR : Stays R) (size : Nat) : Stays (RList R size) := fun _ _ _ _ ⟨v, h1, h2⟩ hb => ⟨v, h1, h2.below hR hb⟩
theorem rint_of_rd {P : Program} {w : World} {t : TypeId} (ht : P.underlying t = some (.int .i64)) (cs : List Value) (h : Rd P w t cs) : ∃ x, RInt x cs w := by
  obtain ⟨n, h1, h2⟩ := h.i64 ht
  exact ⟨n, h1, h2⟩
theorem rbool_of_rd {P : Program} {w : World} {t : TypeId} (ht : P.underlying t = some .bool) (cs : List Value) (h : Rd P w t cs) : ∃ x, RBool x cs w := h.bool ht
theorem rstr_of_rd {P : Program} {w : World} {t : TypeId} (ht : P.underlying t = some .string) (cs : List Value) (h : Rd P w t cs) : ∃ x, RStr x cs w := by
  obtain ⟨n, h1, h2⟩ := h.str ht
  exact ⟨n, h1, h2⟩
theorem rlist_of_rd {P : Program} {w : World} {t e : TypeId} {α : Type} {R : α → List Value → World → Prop} {size : Nat} (hu : P.underlying t = some (.slice e)) (hs : P.cellsOf e = size) (h0 : 0 < size)
    (hR : ∀ cs, Rd P w e cs → ∃ x, R x cs w) (cs : List Value) (h : Rd P w t cs) : ∃ l, RList R size l cs w := by
  have hv : ∃ v, cs = [v] := by
    rcases h.slice hu with h1 | ⟨a, len, cap, h1, _⟩
    · exact ⟨_, h1⟩
    · exact ⟨_, h1⟩
  obtain ⟨v, rfl⟩ := hv
  obtain ⟨l, hl⟩ := LArg.of_rd hu hs h0 hR h
  exact ⟨l, v, rfl, hl⟩
theorem field_of {fs : Array Field} {L : Array (TypeId × Nat)} (h : (fs.map fun f => (f.type, f.offset)) = L) {i : Nat} {t : TypeId} {o : Nat} (hp : L[i]? = some (t, o)) : ∃ f, fs[i]? = some f ∧ f.type = t ∧ f.offset = o := by
  rw [← h, Array.getElem?_map, Option.map_eq_some_iff] at hp
  obtain ⟨f, hf, he⟩ := hp
  simp only [Prod.mk.injEq] at he
  exact ⟨f, hf, he.1, he.2⟩
/-- a struct's field, read -/
theorem Rd.field {P : Program} {w : World} {t : TypeId} {L : Array (TypeId × Nat)} {cs : List Value} (h : Rd P w t cs) (hs : (match P.underlying t with | some (.struct fs) => some (fs.map fun f => (f.type, f.offset)) | _ => none) = some L)
    {i : Nat} {u : TypeId} {o size : Nat} (hp : L[i]? = some (u, o)) (hc : P.cellsOf u = size) : Rd P w u ((cs.drop o).take size) := by
  split at hs
  · next fs hu =>
    obtain ⟨f, hf, ht, ho⟩ := field_of (Option.some.inj hs) hp
    have := (h.struct hu).2 i f hf
    rw [ht, ho, hc] at this
    exact this
  · cases hs
theorem Rd.len {P : Program} {w : World} {t : TypeId} {L : Array (TypeId × Nat)} {cs : List Value} (h : Rd P w t cs) (hs : (match P.underlying t with | some (.struct fs) => some (fs.map fun f => (f.type, f.offset)) | _ => none) = some L) : cs.length = P.cellsOf t := by
  split at hs
  · next fs hu => exact (h.struct hu).1
  · cases hs
end Go.Proofs.YtepidpegoihllaaGreatDoor
/- Links, gates, spans and what is known, that came in. -/
namespace Go.Proofs.YtepidpegoihllaaGreatDoor
open Go.RowKit
theorem und_IG : Tryz.prog.underlying 3 = some (.int .i64) := by kernel_rfl
theorem und_BG : Tryz.prog.underlying 4 = some .bool := by kernel_rfl
theorem und_SG : Tryz.prog.underlying 9 = some .string := by kernel_rfl
theorem und_L0G : Tryz.prog.underlying 65 = some (.slice 151) := by kernel_rfl
def RPoint (x : PointV) (cs : List Value) (_ : World) : Prop := cs = [.int .i64 x.x, .int .i64 x.y] ∧ (-9223372036854775808 ≤ x.x ∧ x.x ≤ 9223372036854775807) ∧ (-9223372036854775808 ≤ x.y ∧ x.y ≤ 9223372036854775807)
theorem stays_Point : Stays RPoint := fun _ _ _ _ h _ => h
theorem struct_Point : (match Tryz.prog.underlying 151 with | some (.struct fs) => some (fs.map fun f => (f.type, f.offset)) | _ => none) = some #[(3, 0), (3, 1)] := by kernel_rfl
theorem cells_Point : Tryz.prog.cellsOf 151 = 2 := by kernel_rfl
set_option maxRecDepth 100000 in
theorem Point_of_rd {w : World} (cs : List Value) (h : Rd Tryz.prog w 151 cs) : ∃ x : PointV, RPoint x cs w := by
  have hl := h.len struct_Point
  rw [cells_Point] at hl
  have h0 := h.field struct_Point (i := 0) (u := 3) (o := 0) (size := 1) rfl (by kernel_rfl)
  have h1 := h.field struct_Point (i := 1) (u := 3) (o := 1) (size := 1) rfl (by kernel_rfl)
  match cs, hl with
  | [c0, c1], _ =>
    simp only [List.drop_zero, List.drop_succ_cons, List.take_succ_cons, List.take_zero] at h0 h1
    obtain ⟨x0, e0, b0⟩ := rint_of_rd (w := w) und_IG _ h0
    obtain ⟨x1, e1, b1⟩ := rint_of_rd (w := w) und_IG _ h1
    simp only [List.cons.injEq, and_true] at e0 e1
    exact ⟨⟨x0, x1⟩, by rw [e0, e1], b0, b1⟩
def RBand (x : BandV) (cs : List Value) (w : World) : Prop := ∃ v0 v1 : Value, cs = [v0, v1] ∧ LArg RPoint 2 v0 x.lo w ∧ LArg RPoint 2 v1 x.hi w
theorem struct_Band : (match Tryz.prog.underlying 70 with | some (.struct fs) => some (fs.map fun f => (f.type, f.offset)) | _ => none) = some #[(65, 0), (65, 1)] := by kernel_rfl
theorem cells_Band : Tryz.prog.cellsOf 70 = 2 := by kernel_rfl
set_option maxRecDepth 100000 in
theorem Band_of_rd {w : World} (cs : List Value) (h : Rd Tryz.prog w 70 cs) : ∃ x : BandV, RBand x cs w := by
  have hl := h.len struct_Band
  rw [cells_Band] at hl
  have h0 := h.field struct_Band (i := 0) (u := 65) (o := 0) (size := 1) rfl (by kernel_rfl)
  have h1 := h.field struct_Band (i := 1) (u := 65) (o := 1) (size := 1) rfl (by kernel_rfl)
  match cs, hl with
  | [c0, c1], _ =>
    simp only [List.drop_zero, List.drop_succ_cons, List.take_succ_cons, List.take_zero] at h0 h1
    obtain ⟨x0, w0, e0, l0⟩ := rlist_of_rd (w := w) (R := RPoint) (size := 2) und_L0G (by kernel_rfl) (by decide) Point_of_rd _ h0
    obtain ⟨x1, w1, e1, l1⟩ := rlist_of_rd (w := w) (R := RPoint) (size := 2) und_L0G (by kernel_rfl) (by decide) Point_of_rd _ h1
    simp only [List.cons.injEq, and_true] at e0 e1
    exact ⟨⟨x0, x1⟩, w0, w1, by rw [e0, e1], l0, l1⟩
def RLink (x : LinkV) (cs : List Value) (w : World) : Prop := ∃ v0 v1 v2 : Value, cs = [.string x.name, .int .i64 x.kind, .int .i64 x.src, .int .i64 x.dst, v0, v1, v2, .int .i64 x.positions, .int .i64 x.speed, .int .i64 x.leak, .int .i64 x.crest, .int .i64 x.num, .int .i64 x.den, .int .i64 x.prime, .int .i64 x.brk, .int .i64 x.backNum, .int .i64 x.backDen, .int .i64 x.delay] ∧ x.name.size ≤ maxLen ∧ (-9223372036854775808 ≤ x.kind ∧ x.kind ≤ 9223372036854775807) ∧ (-9223372036854775808 ≤ x.src ∧ x.src ≤ 9223372036854775807) ∧ (-9223372036854775808 ≤ x.dst ∧ x.dst ≤ 9223372036854775807) ∧ (-9223372036854775808 ≤ x.positions ∧ x.positions ≤ 9223372036854775807) ∧ (-9223372036854775808 ≤ x.speed ∧ x.speed ≤ 9223372036854775807) ∧ (-9223372036854775808 ≤ x.leak ∧ x.leak ≤ 9223372036854775807) ∧ (-9223372036854775808 ≤ x.crest ∧ x.crest ≤ 9223372036854775807) ∧ (-9223372036854775808 ≤ x.num ∧ x.num ≤ 9223372036854775807) ∧ (-9223372036854775808 ≤ x.den ∧ x.den ≤ 9223372036854775807) ∧ (-9223372036854775808 ≤ x.prime ∧ x.prime ≤ 9223372036854775807) ∧ (-9223372036854775808 ≤ x.brk ∧ x.brk ≤ 9223372036854775807) ∧ (-9223372036854775808 ≤ x.backNum ∧ x.backNum ≤ 9223372036854775807) ∧ (-9223372036854775808 ≤ x.backDen ∧ x.backDen ≤ 9223372036854775807) ∧ (-9223372036854775808 ≤ x.delay ∧ x.delay ≤ 9223372036854775807) ∧ LArg RPoint 2 v0 x.rate w ∧ LArg RPoint 2 v1 x.band.lo w ∧ LArg RPoint 2 v2 x.band.hi w
theorem stays_Link : Stays RLink := fun _ _ _ _ ⟨v0, v1, v2, h0, b0, b1, b2, b3, b4, b5, b6, b7, b8, b9, b10, b11, b12, b13, b14, l0, l1, l2⟩ hb => ⟨v0, v1, v2, h0, b0, b1, b2, b3, b4, b5, b6, b7, b8, b9, b10, b11, b12, b13, b14, l0.below stays_Point hb, l1.below stays_Point hb, l2.below stays_Point hb⟩
theorem struct_Link : (match Tryz.prog.underlying 72 with | some (.struct fs) => some (fs.map fun f => (f.type, f.offset)) | _ => none) = some #[(9, 0), (3, 1), (3, 2), (3, 3), (65, 4), (70, 5), (3, 7), (3, 8), (3, 9), (3, 10), (3, 11), (3, 12), (3, 13), (3, 14), (3, 15), (3, 16), (3, 17)] := by kernel_rfl
theorem cells_Link : Tryz.prog.cellsOf 72 = 18 := by kernel_rfl
set_option maxRecDepth 100000 in
theorem Link_of_rd {w : World} (cs : List Value) (h : Rd Tryz.prog w 72 cs) : ∃ x : LinkV, RLink x cs w := by
  have hl := h.len struct_Link
  rw [cells_Link] at hl
  have h0 := h.field struct_Link (i := 0) (u := 9) (o := 0) (size := 1) rfl (by kernel_rfl)
  have h1 := h.field struct_Link (i := 1) (u := 3) (o := 1) (size := 1) rfl (by kernel_rfl)
  have h2 := h.field struct_Link (i := 2) (u := 3) (o := 2) (size := 1) rfl (by kernel_rfl)
  have h3 := h.field struct_Link (i := 3) (u := 3) (o := 3) (size := 1) rfl (by kernel_rfl)
  have h4 := h.field struct_Link (i := 4) (u := 65) (o := 4) (size := 1) rfl (by kernel_rfl)
  have h5 := h.field struct_Link (i := 5) (u := 70) (o := 5) (size := 2) rfl cells_Band
  have h6 := h.field struct_Link (i := 6) (u := 3) (o := 7) (size := 1) rfl (by kernel_rfl)
  have h7 := h.field struct_Link (i := 7) (u := 3) (o := 8) (size := 1) rfl (by kernel_rfl)
  have h8 := h.field struct_Link (i := 8) (u := 3) (o := 9) (size := 1) rfl (by kernel_rfl)
  have h9 := h.field struct_Link (i := 9) (u := 3) (o := 10) (size := 1) rfl (by kernel_rfl)
  have h10 := h.field struct_Link (i := 10) (u := 3) (o := 11) (size := 1) rfl (by kernel_rfl)
  have h11 := h.field struct_Link (i := 11) (u := 3) (o := 12) (size := 1) rfl (by kernel_rfl)
  have h12 := h.field struct_Link (i := 12) (u := 3) (o := 13) (size := 1) rfl (by kernel_rfl)
  have h13 := h.field struct_Link (i := 13) (u := 3) (o := 14) (size := 1) rfl (by kernel_rfl)
  have h14 := h.field struct_Link (i := 14) (u := 3) (o := 15) (size := 1) rfl (by kernel_rfl)
  have h15 := h.field struct_Link (i := 15) (u := 3) (o := 16) (size := 1) rfl (by kernel_rfl)
  have h16 := h.field struct_Link (i := 16) (u := 3) (o := 17) (size := 1) rfl (by kernel_rfl)
  match cs, hl with
  | [c0, c1, c2, c3, c4, c5, c6, c7, c8, c9, c10, c11, c12, c13, c14, c15, c16, c17], _ =>
    simp only [List.drop_zero, List.drop_succ_cons, List.take_succ_cons, List.take_zero] at h0 h1 h2 h3 h4 h5 h6 h7 h8 h9 h10 h11 h12 h13 h14 h15 h16
    obtain ⟨x0, e0, b0⟩ := rstr_of_rd (w := w) und_SG _ h0
    obtain ⟨x1, e1, b1⟩ := rint_of_rd (w := w) und_IG _ h1
    obtain ⟨x2, e2, b2⟩ := rint_of_rd (w := w) und_IG _ h2
    obtain ⟨x3, e3, b3⟩ := rint_of_rd (w := w) und_IG _ h3
    obtain ⟨x4, w4, e4, l4⟩ := rlist_of_rd (w := w) (R := RPoint) (size := 2) und_L0G (by kernel_rfl) (by decide) Point_of_rd _ h4
    obtain ⟨x5, w5_0, w5_1, e5, l5_0, l5_1⟩ := Band_of_rd (w := w) _ h5
    obtain ⟨x6, e6, b6⟩ := rint_of_rd (w := w) und_IG _ h6
    obtain ⟨x7, e7, b7⟩ := rint_of_rd (w := w) und_IG _ h7
    obtain ⟨x8, e8, b8⟩ := rint_of_rd (w := w) und_IG _ h8
    obtain ⟨x9, e9, b9⟩ := rint_of_rd (w := w) und_IG _ h9
    obtain ⟨x10, e10, b10⟩ := rint_of_rd (w := w) und_IG _ h10
    obtain ⟨x11, e11, b11⟩ := rint_of_rd (w := w) und_IG _ h11
    obtain ⟨x12, e12, b12⟩ := rint_of_rd (w := w) und_IG _ h12
    obtain ⟨x13, e13, b13⟩ := rint_of_rd (w := w) und_IG _ h13
    obtain ⟨x14, e14, b14⟩ := rint_of_rd (w := w) und_IG _ h14
    obtain ⟨x15, e15, b15⟩ := rint_of_rd (w := w) und_IG _ h15
    obtain ⟨x16, e16, b16⟩ := rint_of_rd (w := w) und_IG _ h16
    simp only [List.cons.injEq, and_true] at e0 e1 e2 e3 e4 e5 e6 e7 e8 e9 e10 e11 e12 e13 e14 e15 e16
    exact ⟨⟨x0, x1, x2, x3, x4, x5, x6, x7, x8, x9, x10, x11, x12, x13, x14, x15, x16⟩, w4, w5_0, w5_1, by rw [e0, e1, e2, e3, e4, e5.1, e5.2, e6, e7, e8, e9, e10, e11, e12, e13, e14, e15, e16], b0, b1, b2, b3, b6, b7, b8, b9, b10, b11, b12, b13, b14, b15, b16, l4, l5_0, l5_1⟩
def RGate (x : GateV) (cs : List Value) (_ : World) : Prop := cs = [.int .i64 x.pos, .int .i64 x.target, .bool x.stuck, .bool x.opened] ∧ (-9223372036854775808 ≤ x.pos ∧ x.pos ≤ 9223372036854775807) ∧ (-9223372036854775808 ≤ x.target ∧ x.target ≤ 9223372036854775807)
theorem stays_Gate : Stays RGate := fun _ _ _ _ h _ => h
theorem struct_Gate : (match Tryz.prog.underlying 74 with | some (.struct fs) => some (fs.map fun f => (f.type, f.offset)) | _ => none) = some #[(3, 0), (3, 1), (4, 2), (4, 3)] := by kernel_rfl
theorem cells_Gate : Tryz.prog.cellsOf 74 = 4 := by kernel_rfl
set_option maxRecDepth 100000 in
theorem Gate_of_rd {w : World} (cs : List Value) (h : Rd Tryz.prog w 74 cs) : ∃ x : GateV, RGate x cs w := by
  have hl := h.len struct_Gate
  rw [cells_Gate] at hl
  have h0 := h.field struct_Gate (i := 0) (u := 3) (o := 0) (size := 1) rfl (by kernel_rfl)
  have h1 := h.field struct_Gate (i := 1) (u := 3) (o := 1) (size := 1) rfl (by kernel_rfl)
  have h2 := h.field struct_Gate (i := 2) (u := 4) (o := 2) (size := 1) rfl (by kernel_rfl)
  have h3 := h.field struct_Gate (i := 3) (u := 4) (o := 3) (size := 1) rfl (by kernel_rfl)
  match cs, hl with
  | [c0, c1, c2, c3], _ =>
    simp only [List.drop_zero, List.drop_succ_cons, List.take_succ_cons, List.take_zero] at h0 h1 h2 h3
    obtain ⟨x0, e0, b0⟩ := rint_of_rd (w := w) und_IG _ h0
    obtain ⟨x1, e1, b1⟩ := rint_of_rd (w := w) und_IG _ h1
    obtain ⟨x2, e2⟩ := rbool_of_rd (w := w) und_BG _ h2
    unfold RBool at e2
    obtain ⟨x3, e3⟩ := rbool_of_rd (w := w) und_BG _ h3
    unfold RBool at e3
    simp only [List.cons.injEq, and_true] at e0 e1 e2 e3
    exact ⟨⟨x0, x1, x2, x3⟩, by rw [e0, e1, e2, e3], b0, b1⟩
end Go.Proofs.YtepidpegoihllaaGreatDoor
