/- bournelaw02: values, as they came in (VArg); light, write, all. -/
import Derived.Test.YtapbehipdeabbaaDoorWOnly
import Derived.Test.YtapbehipdeabbaaDoorWArgs
import Derived.Test.YtapbehipdeabbaaDoorOpen
import Derived.Test.YtapbehipdeabbaaDoorWValLaw
import Derived.Deep.MidRow
namespace Go.Proofs.YtapbehipdeabbaaDoor
open Go.RowKit
/-- the five cells from o on of block b are the value x -/
def VAt (w : World) (b o : Nat) (x : VV) : Prop :=
  ∃ vl vt, w.cell? ⟨b, o, none⟩ = some (.int .i64 x.kind) ∧ w.cell? ⟨b, o + 1, none⟩ = some (.int .i64 x.n) ∧ w.cell? ⟨b, o + 2, none⟩ = some (.string x.s) ∧ w.cell? ⟨b, o + 3, none⟩ = some vl ∧ w.cell? ⟨b, o + 4, none⟩ = some vt ∧
    CArg (Value.int .i64) vl x.l w ∧ CArg Value.string vt x.t w
/-- v is a slice of the values xs, anywhere in a block that exists -/
def VArg (v : Value) (xs : List VV) (w : World) : Prop :=
  ∃ a c, v = .slice a xs.length c ∧ ∀ j x, xs[j]? = some x → ∃ b o, a = some ⟨b, o, none⟩ ∧ b < w.heap.size ∧ VAt w b (o + j * 5) x ∧ VOk x
theorem VAt.below {w w' : World} {b o : Nat} {x : VV} (h : VAt w b o x) (hb : Below w.heap.size w w') (hlt : b < w.heap.size) : VAt w' b o x := by
  obtain ⟨vl, vt, h0, h1, h2, h3, h4, h5, h6⟩ := h
  have hc : ∀ j v, w.cell? ⟨b, j, none⟩ = some v → w'.cell? ⟨b, j, none⟩ = some v := fun j v h => (hb.cell (p := ⟨b, j, none⟩) hlt).trans h
  exact ⟨vl, vt, hc _ _ h0, hc _ _ h1, hc _ _ h2, hc _ _ h3, hc _ _ h4, h5.below hb (Nat.le_refl _), h6.below hb (Nat.le_refl _)⟩
theorem VArg.below {v : Value} {xs : List VV} {w w' : World} (h : VArg v xs w) (hb : Below w.heap.size w w') : VArg v xs w' := by
  obtain ⟨a, c, rfl, h⟩ := h
  refine ⟨a, c, rfl, fun j x hj => ?_⟩
  obtain ⟨b, o, h1, h2, h3, h4⟩ := h j x hj
  exact ⟨b, o, h1, Nat.lt_of_lt_of_le h2 hb.size, h3.below hb h2, h4⟩
theorem list_choice {α : Type} (P : Nat → α → Prop) (n : Nat) (h : ∀ i, i < n → ∃ x, P i x) : ∃ xs : List α, xs.length = n ∧ ∀ i x, xs[i]? = some x → P i x := by
  induction n with
  | zero => exact ⟨[], rfl, fun i x hx => by simp at hx⟩
  | succ n ih =>
    obtain ⟨xs, hl, hx⟩ := ih (fun i hi => h i (by omega))
    obtain ⟨y, hy⟩ := h n (by omega)
    refine ⟨xs ++ [y], by simp [hl], fun i x hi => ?_⟩
    by_cases hin : i < n
    · rw [List.getElem?_append_left (by omega)] at hi
      exact hx i x hi
    · rw [List.getElem?_append_right (by omega)] at hi
      have : i - xs.length = 0 := by
        have := (List.getElem?_eq_some_iff.1 hi).1
        simp at this
        omega
      rw [this] at hi
      simp only [List.getElem?_cons_zero, Option.some.injEq] at hi
      subst hi
      have : i = n := by omega
      subst this
      exact hy
theorem spot_none {w : World} {a : Addr} {v : Value} (h : w.cell? a = some v) : a = ⟨a.block, a.off, none⟩ := by
  obtain ⟨b, o, s⟩ := a
  cases s with
  | none => rfl
  | some k =>
    simp only [World.cell?, Option.isSome_some, if_true] at h
    split at h <;> cases h
/-- a slice of elements of one cell each -/
theorem carg_of_rd {α : Type} (enc : α → Value) (P : Program) (w : World) (t e : TypeId) (ok : α → Prop) (ht : P.underlying t = some (.slice e)) (hc : P.cellsOf e = 1)
    (he : ∀ cs, Rd P w e cs → ∃ x, cs = [enc x] ∧ ok x) (v : Value) (h : Rd P w t [v]) : ∃ xs : List α, CArg enc v xs w ∧ xs.length ≤ maxLen ∧ ∀ x ∈ xs, ok x := by
  rcases h.slice ht with h0 | ⟨a, len, cap, h0, hl, hm, hel⟩
  · have hv : v = .slice none 0 0 := (List.cons.inj h0).1
    exact ⟨[], ⟨none, 0, hv, fun j x hj => by simp at hj⟩, Nat.zero_le _, by simp⟩
  · have hv : v = .slice (some a) len cap := (List.cons.inj h0).1
    obtain ⟨xs, hxl, hx⟩ := list_choice (fun i (x : α) => w.cell? (a.add i) = some (enc x) ∧ ok x) len (fun i hi => by
      obtain ⟨cs, h1, _, h3⟩ := hel i hi
      obtain ⟨x, rfl, hok⟩ := he cs h1
      have := h3 0 (enc x) rfl
      rw [hc, Nat.mul_one] at this
      exact ⟨x, by simpa [Addr.add] using this, hok⟩)
    refine ⟨xs, ⟨some a, cap, by rw [hxl]; exact hv, fun j x hj => ?_⟩, by omega, fun x hm => ?_⟩
    · obtain ⟨h1, _⟩ := hx j x hj
      exact ⟨a, rfl, cell_lt' h1, h1⟩
    · obtain ⟨k, hk⟩ := List.mem_iff_getElem?.1 hm
      exact (hx k x hk).2
theorem undVs : Tryd.prog.underlying 22 = some (.slice 28) := by kernel_rfl
theorem cellsV : Tryd.prog.cellsOf 28 = 5 := by kernel_rfl
theorem cellsI : Tryd.prog.cellsOf 3 = 1 := by kernel_rfl
theorem cellsS : Tryd.prog.cellsOf 9 = 1 := by kernel_rfl
theorem undI : Tryd.prog.underlying 3 = some (.int .i64) := by kernel_rfl
theorem cellsIs : Tryd.prog.cellsOf 25 = 1 := by kernel_rfl
theorem cellsSs : Tryd.prog.cellsOf 26 = 1 := by kernel_rfl
theorem structVm : (match Tryd.prog.underlying 28 with | some (.struct fs) => some (fs.map fun f => (f.type, f.offset)) | _ => none) = some #[(3, 0), (3, 1), (9, 2), (25, 3), (26, 4)] := by kernel_rfl
theorem structV : ∃ fs, Tryd.prog.underlying 28 = some (.struct fs) ∧ (fs.map fun f => (f.type, f.offset)) = #[(3, 0), (3, 1), (9, 2), (25, 3), (26, 4)] := by
  have h := structVm
  split at h
  · next fs hu => exact ⟨fs, hu, Option.some.inj h⟩
  · cases h
theorem field_at {fs : Array Field} {L : Array (TypeId × Nat)} (h : (fs.map fun f => (f.type, f.offset)) = L) {i : Nat} {t : TypeId} {o : Nat} (hp : L[i]? = some (t, o)) : ∃ f, fs[i]? = some f ∧ f.type = t ∧ f.offset = o := by
  rw [← h, Array.getElem?_map, Option.map_eq_some_iff] at hp
  obtain ⟨f, hf, he⟩ := hp
  simp only [Prod.mk.injEq] at he
  exact ⟨f, hf, he.1, he.2⟩
theorem one_cell {cs : List Value} {n o : Nat} (hl : cs.length = n) (ho : o < n) : ∃ v, (cs.drop o).take 1 = [v] ∧ cs[o]? = some v := by
  have h : o < cs.length := by omega
  exact ⟨cs[o], by rw [List.drop_eq_getElem_cons h]; rfl, List.getElem?_eq_getElem h⟩
theorem value_of_rd {w : World} {cs : List Value} (h : Rd Tryd.prog w 28 cs) : ∃ (x : VV) (vl vt : Value), cs = [.int .i64 x.kind, .int .i64 x.n, .string x.s, vl, vt] ∧ CArg (Value.int .i64) vl x.l w ∧ CArg Value.string vt x.t w ∧ VOk x := by
  obtain ⟨fs, hu, hF⟩ := structV
  obtain ⟨hl, hf⟩ := h.struct hu
  rw [cellsV] at hl
  obtain ⟨f0, g0, t0, o0⟩ := field_at hF (i := 0) (t := 3) (o := 0) rfl
  obtain ⟨f1, g1, t1, o1⟩ := field_at hF (i := 1) (t := 3) (o := 1) rfl
  obtain ⟨f2, g2, t2, o2⟩ := field_at hF (i := 2) (t := 9) (o := 2) rfl
  obtain ⟨f3, g3, t3, o3⟩ := field_at hF (i := 3) (t := 25) (o := 3) rfl
  obtain ⟨f4, g4, t4, o4⟩ := field_at hF (i := 4) (t := 26) (o := 4) rfl
  have h0 := hf 0 f0 g0
  have h1 := hf 1 f1 g1
  have h2 := hf 2 f2 g2
  have h3 := hf 3 f3 g3
  have h4 := hf 4 f4 g4
  rw [t0, o0, cellsI] at h0
  rw [t1, o1, cellsI] at h1
  rw [t2, o2, cellsS] at h2
  rw [t3, o3, cellsIs] at h3
  rw [t4, o4, cellsSs] at h4
  match cs, hl with
  | [c0, c1, c2, c3, c4], _ =>
    simp only [List.drop_zero, List.drop_succ_cons, List.take_succ_cons, List.take_zero] at h0 h1 h2 h3 h4
    obtain ⟨n0, e0, b0⟩ := h0.i64 undI
    obtain ⟨n1, e1, b1⟩ := h1.i64 undI
    obtain ⟨s2, e2, b2⟩ := h2.str undS
    obtain ⟨l3, a3, b3, d3⟩ := carg_of_rd (Value.int .i64) Tryd.prog w 25 3 I64 undIs cellsI (fun cs h => by obtain ⟨n, e, b⟩ := h.i64 undI; exact ⟨n, e, b⟩) c3 h3
    obtain ⟨l4, a4, b4, d4⟩ := carg_of_rd Value.string Tryd.prog w 26 9 (fun s => s.size ≤ maxLen) undSs cellsS (fun cs h => by obtain ⟨n, e, b⟩ := h.str undS; exact ⟨n, e, b⟩) c4 h4
    simp only [List.cons.injEq, and_true] at e0 e1 e2
    exact ⟨⟨n0, n1, s2, l3, l4⟩, c3, c4, by rw [e0, e1, e2], a3, a4, b0, b1, b2, b3, d3, b4, d4⟩
theorem arg_values {H : Type} {enc : TypeId × Value → H} {W : World} {base : Nat} {v : Value} {d : DataW H} {ps : List MemPlace} (hval : Value.okWide Tryd.prog W .any base 22 v)
    (h : DataW.Trod enc Tryd.prog W 0 (fun _ => true) true 22 v d ps) : ∃ xs : List VV, VArg v xs W ∧ (xs.length : Int) ≤ maxLen := by
  obtain ⟨a0, len0, cap0, rfl⟩ := Go.WideShapes.okWide_slice undVs hval
  have hr := Rd.of_trod h
  rcases hr.slice undVs with h0 | ⟨a, len, cap, h0, hl, hm, hel⟩
  · have h0' : Value.slice a0 len0 cap0 = .slice none 0 0 := (List.cons.inj h0).1
    exact ⟨[], ⟨none, 0, h0', fun j x hj => by simp at hj⟩, by unfold maxLen; simp⟩
  · have h0' : Value.slice a0 len0 cap0 = .slice (some a) len cap := (List.cons.inj h0).1
    obtain ⟨xs, hxl, hx⟩ := list_choice (fun i (x : VV) => ∃ b o, a = ⟨b, o, none⟩ ∧ b < W.heap.size ∧ VAt W b (o + i * 5) x ∧ VOk x) len (fun i hi => by
      obtain ⟨cs, h1, _, h3⟩ := hel i hi
      rw [cellsV] at h3
      obtain ⟨x, vl, vt, rfl, c1, c2, hok⟩ := value_of_rd h1
      obtain ⟨cs0, _, hl0, h30⟩ := hel 0 (by omega)
      rw [cellsV] at hl0
      have hsp : a = ⟨a.block, a.off, none⟩ := by
        have := h30 0 (cs0[0]'(by omega)) (List.getElem?_eq_getElem (by omega))
        simp only [Nat.zero_mul, Addr.add, if_true] at this
        exact spot_none this
      refine ⟨x, a.block, a.off, hsp, ?_, ?_, hok⟩
      · have := cell_lt' (h3 0 _ rfl)
        rw [hsp, Addr.add_mid, Addr.add_mid] at this
        exact this
      · have hc : ∀ j u, ([.int .i64 x.kind, .int .i64 x.n, .string x.s, vl, vt] : List Value)[j]? = some u → W.cell? ⟨a.block, a.off + i * 5 + j, none⟩ = some u := fun j u hj => by
          have := h3 j u hj
          rw [hsp, Addr.add_mid, Addr.add_mid] at this
          exact this
        exact ⟨vl, vt, hc 0 _ rfl, hc 1 _ rfl, hc 2 _ rfl, hc 3 _ rfl, hc 4 _ rfl, c1, c2⟩)
    refine ⟨xs, ⟨some a, cap, by rw [hxl]; exact h0', fun j x hj => ?_⟩, by rw [hxl]; omega⟩
    obtain ⟨b, o, h1, h2, h3, h4⟩ := hx j x hj
    exact ⟨b, o, by rw [h1], h2, h3, h4⟩
end Go.Proofs.YtapbehipdeabbaaDoor
