/- A telegram as an argument that came in, opened. -/
import Derived.Test.YtmlfkhpmgjcliaaDoorGArgs
import Derived.Test.YtmlfkhpmgjcliaaDoorGForm
import Derived.Test.YtmlfkhpmgjcliaaDoorOpen
namespace Go.Proofs.YtmlfkhpmgjcliaaDoor
open Go.ChangeShapes Go.WideShapes Go.ChangeAt Go.RowKit Go.WideMaps Go.WideElems
theorem field_at {fs : Array Field} {L : Array (TypeId × Nat)} (h : (fs.map fun f => (f.type, f.offset)) = L) {i : Nat} {t : TypeId} {o : Nat} (hp : L[i]? = some (t, o)) : ∃ f, fs[i]? = some f ∧ f.type = t ∧ f.offset = o := by
  rw [← h, Array.getElem?_map, Option.map_eq_some_iff] at hp
  obtain ⟨f, hf, he⟩ := hp
  simp only [Prod.mk.injEq] at he
  exact ⟨f, hf, he.1, he.2⟩
theorem structGm : (match Tryd.prog.underlying 23 with | some (.struct fs) => some (fs.map fun f => (f.type, f.offset)) | _ => none) = some #[(3, 0), (3, 1), (3, 2), (3, 3), (9, 4)] := by kernel_rfl
theorem structG : ∃ fs, Tryd.prog.underlying 23 = some (.struct fs) ∧ (fs.map fun f => (f.type, f.offset)) = #[(3, 0), (3, 1), (3, 2), (3, 3), (9, 4)] := by
  have h := structGm
  split at h
  · next fs hu => exact ⟨fs, hu, Option.some.inj h⟩
  · cases h
theorem cellsG : Tryd.prog.cellsOf 23 = 5 := by kernel_rfl
theorem cellsI : Tryd.prog.cellsOf 3 = 1 := by kernel_rfl
theorem cellsS : Tryd.prog.cellsOf 9 = 1 := by kernel_rfl
set_option maxRecDepth 10000 in
theorem arg_gram {H : Type} {enc : TypeId × Value → H} {W : World} {base : Nat} {v : Value} {d : DataW H} {ps : List MemPlace} (hval : Value.okWide Tryd.prog W .any base 23 v)
    (h : DataW.Trod enc Tryd.prog W 0 (fun _ => true) true 23 v d ps) : ∃ g : GV, v = .agg #[.int .i64 g.gauge, .int .i64 g.seq, .int .i64 g.clock, .int .i64 g.value, .string g.tag] ∧ GOk g ∧ g.tag.size ≤ maxLen := by
  obtain ⟨fs, hu, hF⟩ := structG
  obtain ⟨cs, rfl, _⟩ := okWide_struct hu hval
  have hr := Rd.of_trod h
  obtain ⟨hl, hf⟩ := hr.struct hu
  rw [cellsG] at hl
  obtain ⟨f0, g0, t0, o0⟩ := field_at hF (i := 0) (t := 3) (o := 0) rfl
  have h0 := hf 0 f0 g0
  rw [t0, o0, cellsI] at h0
  obtain ⟨f1, g1, t1, o1⟩ := field_at hF (i := 1) (t := 3) (o := 1) rfl
  have h1 := hf 1 f1 g1
  rw [t1, o1, cellsI] at h1
  obtain ⟨f2, g2, t2, o2⟩ := field_at hF (i := 2) (t := 3) (o := 2) rfl
  have h2 := hf 2 f2 g2
  rw [t2, o2, cellsI] at h2
  obtain ⟨f3, g3, t3, o3⟩ := field_at hF (i := 3) (t := 3) (o := 3) rfl
  have h3 := hf 3 f3 g3
  rw [t3, o3, cellsI] at h3
  obtain ⟨f4, g4, t4, o4⟩ := field_at hF (i := 4) (t := 9) (o := 4) rfl
  have h4 := hf 4 f4 g4
  rw [t4, o4, cellsS] at h4
  have hcs : (Value.agg cs).cells.toList = cs.toList := rfl
  rw [hcs] at hl h0 h1 h2 h3 h4
  obtain ⟨l⟩ := cs
  match l, hl with
  | [c0, c1, c2, c3, c4], _ =>
    simp only [List.drop_zero, List.drop_succ_cons, List.take_succ_cons, List.take_zero] at h0 h1 h2 h3 h4
    obtain ⟨n0, e0, b0⟩ := h0.i64 undI4
    obtain ⟨n1, e1, b1⟩ := h1.i64 undI4
    obtain ⟨n2, e2, b2⟩ := h2.i64 undI4
    obtain ⟨n3, e3, b3⟩ := h3.i64 undI4
    obtain ⟨s4, e4, b4⟩ := h4.str undS
    simp only [List.cons.injEq, and_true] at e0 e1 e2 e3 e4
    exact ⟨⟨n0, n1, n2, n3, s4⟩, by rw [e0, e1, e2, e3, e4], ⟨b0, b1, b2, b3⟩, b4⟩
end Go.Proofs.YtmlfkhpmgjcliaaDoor
