/- A key and a signature as arguments that came in, opened. -/
import Derived.Test.YtgjklfddoechpaaGreatDoorGArgs
import Derived.Test.YtgjklfddoechpaaGreatDoorRd
namespace Go.Proofs.YtgjklfddoechpaaGreatDoor
open Go.ChangeShapes Go.WideShapes Go.ChangeAt Go.RowKit Go.WideMaps Go.WideElems
theorem field_at {fs : Array Field} {L : Array (TypeId × Nat)} (h : (fs.map fun f => (f.type, f.offset)) = L) {i : Nat} {t : TypeId} {o : Nat} (hp : L[i]? = some (t, o)) : ∃ f, fs[i]? = some f ∧ f.type = t ∧ f.offset = o := by
  rw [← h, Array.getElem?_map, Option.map_eq_some_iff] at hp
  obtain ⟨f, hf, he⟩ := hp
  simp only [Prod.mk.injEq] at he
  exact ⟨f, hf, he.1, he.2⟩
theorem i64_wf {n : Int} (h : (Lit.int .i64 n).wf = true) : I64 n := by
  simp [Lit.wf, IntKind.min, IntKind.max, IntKind.signed, IntKind.bits] at h
  exact h
theorem undI4 : Tryz.prog.underlying 3 = some (.int .i64) := by kernel_rfl
theorem cellsI : Tryz.prog.cellsOf 3 = 1 := by kernel_rfl
theorem structKeym : (match Tryz.prog.underlying 29 with | some (.struct fs) => some (fs.map fun f => (f.type, f.offset)) | _ => none) = some #[(3, 0), (3, 1)] := by kernel_rfl
theorem structKey : ∃ fs, Tryz.prog.underlying 29 = some (.struct fs) ∧ (fs.map fun f => (f.type, f.offset)) = #[(3, 0), (3, 1)] := by
  have h := structKeym
  split at h
  · next fs hu => exact ⟨fs, hu, Option.some.inj h⟩
  · cases h
theorem cellsKey : Tryz.prog.cellsOf 29 = 2 := by kernel_rfl
set_option maxRecDepth 10000 in
theorem arg_key {H : Type} {enc : TypeId × Value → H} {W : World} {base : Nat} {v : Value} {d : DataW H} {ps : List MemPlace} (hval : Value.okWide Tryz.prog W .any base 29 v)
    (h : DataW.Trod enc Tryz.prog W 0 (fun _ => true) true 29 v d ps) : ∃ a b : Int, v = .agg #[.int .i64 a, .int .i64 b] ∧ I64 a ∧ I64 b := by
  obtain ⟨fs, hu, hF⟩ := structKey
  obtain ⟨cs, rfl, _⟩ := okWide_struct hu hval
  have hr := Rd.of_trod h
  obtain ⟨hl, hf⟩ := hr.struct hu
  rw [cellsKey] at hl
  obtain ⟨f0, g0, t0, o0⟩ := field_at hF (i := 0) (t := 3) (o := 0) rfl
  have h0 := hf 0 f0 g0
  rw [t0, o0, cellsI] at h0
  obtain ⟨f1, g1, t1, o1⟩ := field_at hF (i := 1) (t := 3) (o := 1) rfl
  have h1 := hf 1 f1 g1
  rw [t1, o1, cellsI] at h1
  have hcs : (Value.agg cs).cells.toList = cs.toList := rfl
  rw [hcs] at hl h0 h1
  obtain ⟨l⟩ := cs
  match l, hl with
  | [c0, c1], _ =>
    simp only [List.drop_zero, List.drop_succ_cons, List.take_succ_cons, List.take_zero] at h0 h1
    obtain ⟨n0, e0, b0⟩ := h0.i64 undI4
    obtain ⟨n1, e1, b1⟩ := h1.i64 undI4
    simp only [List.cons.injEq, and_true] at e0 e1
    exact ⟨n0, n1, by rw [e0, e1], b0, b1⟩
theorem structSigm : (match Tryz.prog.underlying 23 with | some (.struct fs) => some (fs.map fun f => (f.type, f.offset)) | _ => none) = some #[(3, 0), (3, 1)] := by kernel_rfl
theorem structSig : ∃ fs, Tryz.prog.underlying 23 = some (.struct fs) ∧ (fs.map fun f => (f.type, f.offset)) = #[(3, 0), (3, 1)] := by
  have h := structSigm
  split at h
  · next fs hu => exact ⟨fs, hu, Option.some.inj h⟩
  · cases h
theorem cellsSig : Tryz.prog.cellsOf 23 = 2 := by kernel_rfl
set_option maxRecDepth 10000 in
theorem arg_sig {H : Type} {enc : TypeId × Value → H} {W : World} {base : Nat} {v : Value} {d : DataW H} {ps : List MemPlace} (hval : Value.okWide Tryz.prog W .any base 23 v)
    (h : DataW.Trod enc Tryz.prog W 0 (fun _ => true) true 23 v d ps) : ∃ a b : Int, v = .agg #[.int .i64 a, .int .i64 b] ∧ I64 a ∧ I64 b := by
  obtain ⟨fs, hu, hF⟩ := structSig
  obtain ⟨cs, rfl, _⟩ := okWide_struct hu hval
  have hr := Rd.of_trod h
  obtain ⟨hl, hf⟩ := hr.struct hu
  rw [cellsSig] at hl
  obtain ⟨f0, g0, t0, o0⟩ := field_at hF (i := 0) (t := 3) (o := 0) rfl
  have h0 := hf 0 f0 g0
  rw [t0, o0, cellsI] at h0
  obtain ⟨f1, g1, t1, o1⟩ := field_at hF (i := 1) (t := 3) (o := 1) rfl
  have h1 := hf 1 f1 g1
  rw [t1, o1, cellsI] at h1
  have hcs : (Value.agg cs).cells.toList = cs.toList := rfl
  rw [hcs] at hl h0 h1
  obtain ⟨l⟩ := cs
  match l, hl with
  | [c0, c1], _ =>
    simp only [List.drop_zero, List.drop_succ_cons, List.take_succ_cons, List.take_zero] at h0 h1
    obtain ⟨n0, e0, b0⟩ := h0.i64 undI4
    obtain ⟨n1, e1, b1⟩ := h1.i64 undI4
    simp only [List.cons.injEq, and_true] at e0 e1
    exact ⟨n0, n1, by rw [e0, e1], b0, b1⟩
end Go.Proofs.YtgjklfddoechpaaGreatDoor
