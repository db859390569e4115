/- bournelaw44: steps that came in, opened. -/
import Derived.Test.YthijckdablkofaaDSmall
import Derived.Test.YthijckdablkofaaOpen
import Derived.Test.YthijckdablkofaaRows
import Derived.JoinedCond
import Derived.ProofKit
import Derived.OpenShut
import Derived.ChangeSlices
import Derived.Carry
namespace Go.Proofs.Ythijckdablkofaa
open Go.RowKit
structure SV where
  act : Int
  town : Int
  level : Int
  hour : Int
  call : CV
def sCl (x : SV) : List Value := [.int .i64 x.act, .int .i64 x.town, .int .i64 x.level, .int .i64 x.hour, .int .i64 x.call.town, .int .i64 x.call.level, .int .i64 x.call.number, .int .i64 x.call.warden]
def SOk (x : SV) : Prop := I64 x.act ∧ I64 x.town ∧ I64 x.level ∧ I64 x.hour ∧ COk x.call
/-- v is a slice of the steps l, anywhere in a block that exists -/
def SArg (v : Value) (l : List SV) (w : World) : Prop :=
  ∃ a c, v = .slice a l.length c ∧ ∀ j x, l[j]? = some x → ∃ b o, a = some ⟨b, o, none⟩ ∧ b < w.heap.size ∧ w.rangeAt b (o + j * 8) (sCl x) ∧ SOk x
theorem rangeAt_belowD {w w' : World} {b o : Nat} {cs : List Value} (h : w.rangeAt b o cs) (hb : Below w.heap.size w w') (hlt : b < w.heap.size) : w'.rangeAt b o cs :=
  fun j v hj => (hb.cell (p := ⟨b, o + j, none⟩) hlt).trans (h j v hj)
theorem SArg.below {v : Value} {l : List SV} {w w' : World} (h : SArg v l w) (hb : Below w.heap.size w w') : SArg v l w' := by
  obtain ⟨a, c, rfl, h⟩ := h
  refine ⟨a, c, rfl, fun j x hj => ?_⟩
  obtain ⟨b, o, h1, h2, h3, h4⟩ := h j x hj
  exact ⟨b, o, h1, Nat.lt_of_lt_of_le h2 hb.size, rangeAt_belowD h3 hb h2, h4⟩
theorem list_choice {α : Type} (P : Nat → α → Prop) (n : Nat) (h : ∀ i, i < n → ∃ x, P i x) : ∃ xs : List α, xs.length = n ∧ ∀ i x, xs[i]? = some x → P i x := by
  induction n with
  | zero => exact ⟨[], rfl, fun i x hx => by simp at hx⟩
  | succ n ih =>
    obtain ⟨xs, hl, hx⟩ := ih (fun i hi => h i (by omega))
    obtain ⟨y, hy⟩ := h n (by omega)
    refine ⟨xs ++ [y], by simp [hl], fun i x hi => ?_⟩
    by_cases hin : i < n
    · rw [List.getElem?_append_left (by omega)] at hi
      exact hx i x hi
    · rw [List.getElem?_append_right (by omega)] at hi
      have : i - xs.length = 0 := by
        have := (List.getElem?_eq_some_iff.1 hi).1
        simp at this
        omega
      rw [this] at hi
      simp only [List.getElem?_cons_zero, Option.some.injEq] at hi
      subst hi
      have : i = n := by omega
      subst this
      exact hy
theorem spot_none {w : World} {a : Addr} {v : Value} (h : w.cell? a = some v) : a = ⟨a.block, a.off, none⟩ := by
  obtain ⟨b, o, s⟩ := a
  cases s with
  | none => rfl
  | some k =>
    simp only [World.cell?, Option.isSome_some, if_true] at h
    split at h <;> cases h
theorem undI4 : Try.prog.underlying 3 = some (.int .i64) := by kernel_rfl
theorem undSt : Try.prog.underlying 22 = some (.slice 31) := by kernel_rfl
theorem cellsSt : Try.prog.cellsOf 31 = 8 := by kernel_rfl
theorem cellsCa : Try.prog.cellsOf 29 = 4 := by kernel_rfl
theorem cellsI : Try.prog.cellsOf 3 = 1 := by kernel_rfl
theorem field_at {fs : Array Field} {L : Array (TypeId × Nat)} (h : (fs.map fun f => (f.type, f.offset)) = L) {i : Nat} {t : TypeId} {o : Nat} (hp : L[i]? = some (t, o)) : ∃ f, fs[i]? = some f ∧ f.type = t ∧ f.offset = o := by
  rw [← h, Array.getElem?_map, Option.map_eq_some_iff] at hp
  obtain ⟨f, hf, he⟩ := hp
  simp only [Prod.mk.injEq] at he
  exact ⟨f, hf, he.1, he.2⟩
theorem structStm : (match Try.prog.underlying 31 with | some (.struct fs) => some (fs.map fun f => (f.type, f.offset)) | _ => none) = some #[(3, 0), (3, 1), (3, 2), (3, 3), (29, 4)] := by kernel_rfl
theorem structSt : ∃ fs, Try.prog.underlying 31 = some (.struct fs) ∧ (fs.map fun f => (f.type, f.offset)) = #[(3, 0), (3, 1), (3, 2), (3, 3), (29, 4)] := by
  have h := structStm
  split at h
  · next fs hu => exact ⟨fs, hu, Option.some.inj h⟩
  · cases h
theorem structCam : (match Try.prog.underlying 29 with | some (.struct fs) => some (fs.map fun f => (f.type, f.offset)) | _ => none) = some #[(3, 0), (3, 1), (3, 2), (3, 3)] := by kernel_rfl
theorem structCa : ∃ fs, Try.prog.underlying 29 = some (.struct fs) ∧ (fs.map fun f => (f.type, f.offset)) = #[(3, 0), (3, 1), (3, 2), (3, 3)] := by
  have h := structCam
  split at h
  · next fs hu => exact ⟨fs, hu, Option.some.inj h⟩
  · cases h
set_option maxRecDepth 100000 in
theorem call_of_rd {w : World} {cs : List Value} (h : Rd Try.prog w 29 cs) : ∃ c : CV, cs = cCl c ∧ COk c := by
  obtain ⟨fs, hu, hF⟩ := structCa
  obtain ⟨hl, hf⟩ := h.struct hu
  rw [cellsCa] at hl
  obtain ⟨f0, g0, t0, o0⟩ := field_at hF (i := 0) (t := 3) (o := 0) rfl
  have h0 := hf 0 f0 g0
  rw [t0, o0, cellsI] at h0
  obtain ⟨f1, g1, t1, o1⟩ := field_at hF (i := 1) (t := 3) (o := 1) rfl
  have h1 := hf 1 f1 g1
  rw [t1, o1, cellsI] at h1
  obtain ⟨f2, g2, t2, o2⟩ := field_at hF (i := 2) (t := 3) (o := 2) rfl
  have h2 := hf 2 f2 g2
  rw [t2, o2, cellsI] at h2
  obtain ⟨f3, g3, t3, o3⟩ := field_at hF (i := 3) (t := 3) (o := 3) rfl
  have h3 := hf 3 f3 g3
  rw [t3, o3, cellsI] at h3
  match cs, hl with
  | [c0, c1, c2, c3], _ =>
    simp only [List.drop_zero, List.drop_succ_cons, List.take_succ_cons, List.take_zero] at h0 h1 h2 h3
    obtain ⟨n0, e0, b0⟩ := h0.i64 undI4
    obtain ⟨n1, e1, b1⟩ := h1.i64 undI4
    obtain ⟨n2, e2, b2⟩ := h2.i64 undI4
    obtain ⟨n3, e3, b3⟩ := h3.i64 undI4
    simp only [List.cons.injEq, and_true] at e0 e1 e2 e3
    exact ⟨⟨n0, n1, n2, n3⟩, by rw [e0, e1, e2, e3]; rfl, ⟨b0, b1, b2, b3⟩⟩
set_option maxRecDepth 100000 in
theorem step_of_rd {w : World} {cs : List Value} (h : Rd Try.prog w 31 cs) : ∃ x : SV, cs = sCl x ∧ SOk x := by
  obtain ⟨fs, hu, hF⟩ := structSt
  obtain ⟨hl, hf⟩ := h.struct hu
  rw [cellsSt] at hl
  obtain ⟨f0, g0, t0, o0⟩ := field_at hF (i := 0) (t := 3) (o := 0) rfl
  have h0 := hf 0 f0 g0
  rw [t0, o0, cellsI] at h0
  obtain ⟨f1, g1, t1, o1⟩ := field_at hF (i := 1) (t := 3) (o := 1) rfl
  have h1 := hf 1 f1 g1
  rw [t1, o1, cellsI] at h1
  obtain ⟨f2, g2, t2, o2⟩ := field_at hF (i := 2) (t := 3) (o := 2) rfl
  have h2 := hf 2 f2 g2
  rw [t2, o2, cellsI] at h2
  obtain ⟨f3, g3, t3, o3⟩ := field_at hF (i := 3) (t := 3) (o := 3) rfl
  have h3 := hf 3 f3 g3
  rw [t3, o3, cellsI] at h3
  obtain ⟨f4, g4, t4, o4⟩ := field_at hF (i := 4) (t := 29) (o := 4) rfl
  have h4 := hf 4 f4 g4
  rw [t4, o4, cellsCa] at h4
  match cs, hl with
  | [c0, c1, c2, c3, c4, c5, c6, c7], _ =>
    simp only [List.drop_zero, List.drop_succ_cons, List.take_succ_cons, List.take_zero] at h0 h1 h2 h3 h4
    obtain ⟨n0, e0, b0⟩ := h0.i64 undI4
    obtain ⟨n1, e1, b1⟩ := h1.i64 undI4
    obtain ⟨n2, e2, b2⟩ := h2.i64 undI4
    obtain ⟨n3, e3, b3⟩ := h3.i64 undI4
    obtain ⟨c, e4, b4⟩ := call_of_rd h4
    simp only [cCl, List.cons.injEq, and_true] at e0 e1 e2 e3 e4
    exact ⟨⟨n0, n1, n2, n3, c⟩, by rw [e0, e1, e2, e3, e4.1, e4.2.1, e4.2.2.1, e4.2.2.2]; rfl, ⟨b0, b1, b2, b3, b4⟩⟩
set_option maxRecDepth 100000 in
theorem arg_steps {H : Type} {enc : TypeId × Value → H} {W : World} {base : Nat} {v : Value} {d : DataW H} {ps : List MemPlace} (hval : Value.okWide Try.prog W .any base 22 v)
    (h : DataW.Trod enc Try.prog W 0 (fun _ => true) true 22 v d ps) : ∃ l : List SV, SArg v l W ∧ (l.length : Int) ≤ maxLen := by
  obtain ⟨a0, len0, cap0, rfl⟩ := Go.WideShapes.okWide_slice undSt hval
  have hr := Rd.of_trod h
  rcases hr.slice undSt with h0 | ⟨a, len, cap, h0, hl, hm, hel⟩
  · have h0' : Value.slice a0 len0 cap0 = .slice none 0 0 := (List.cons.inj h0).1
    exact ⟨[], ⟨none, 0, h0', fun j x hj => by simp at hj⟩, by unfold maxLen; simp⟩
  · have h0' : Value.slice a0 len0 cap0 = .slice (some a) len cap := (List.cons.inj h0).1
    obtain ⟨xs, hxl, hx⟩ := list_choice (fun i (x : SV) => ∃ b o, a = ⟨b, o, none⟩ ∧ b < W.heap.size ∧ W.rangeAt b (o + i * 8) (sCl x) ∧ SOk x) len (fun i hi => by
      obtain ⟨cs, h1, _, h3⟩ := hel i hi
      rw [cellsSt] at h3
      obtain ⟨x, rfl, hok⟩ := step_of_rd h1
      obtain ⟨cs0, _, hl0, h30⟩ := hel 0 (by omega)
      rw [cellsSt] at hl0
      have hsp : a = ⟨a.block, a.off, none⟩ := by
        have := h30 0 (cs0[0]'(by omega)) (List.getElem?_eq_getElem (by omega))
        simp only [Nat.zero_mul, Addr.add, if_true] at this
        exact spot_none this
      refine ⟨x, a.block, a.off, hsp, ?_, ?_, hok⟩
      · have := cell_lt' (h3 0 _ rfl)
        rw [hsp, Addr.add_mid, Addr.add_mid] at this
        exact this
      · intro j u hj
        have := h3 j u hj
        rw [hsp, Addr.add_mid, Addr.add_mid] at this
        exact this)
    refine ⟨xs, ⟨some a, cap, by rw [hxl]; exact h0', fun j x hj => ?_⟩, by rw [hxl]; omega⟩
    obtain ⟨b, o, h1, h2, h3, h4⟩ := hx j x hj
    exact ⟨b, o, by rw [h1], h2, h3, h4⟩
end Go.Proofs.Ythijckdablkofaa
