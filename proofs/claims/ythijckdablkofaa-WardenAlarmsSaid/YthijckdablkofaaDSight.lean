/- Towns and sights that came in. -/
import Derived.Test.YthijckdablkofaaProg
import Derived.Test.YthijckdablkofaaRd
import Derived.KernelRfl
namespace Go.Proofs.Ythijckdablkofaa
open Go.RowKit
theorem und_I : Try.prog.underlying 3 = some (.int .i64) := by kernel_rfl
theorem und_B : Try.prog.underlying 4 = some .bool := by kernel_rfl
theorem und_S : Try.prog.underlying 9 = some .string := by kernel_rfl
theorem und_L0 : Try.prog.underlying 47 = some (.slice 70) := by kernel_rfl
structure TownV where
  name : ByteArray
  place : Int
  flood : Int
  lead : Int
  people : Int
  watch : Int
  quorum : Int
def RTown (x : TownV) (cs : List Value) (_ : World) : Prop := cs = [.string x.name, .int .i64 x.place, .int .i64 x.flood, .int .i64 x.lead, .int .i64 x.people, .int .i64 x.watch, .int .i64 x.quorum] ∧ x.name.size ≤ maxLen ∧ (-9223372036854775808 ≤ x.place ∧ x.place ≤ 9223372036854775807) ∧ (-9223372036854775808 ≤ x.flood ∧ x.flood ≤ 9223372036854775807) ∧ (-9223372036854775808 ≤ x.lead ∧ x.lead ≤ 9223372036854775807) ∧ (-9223372036854775808 ≤ x.people ∧ x.people ≤ 9223372036854775807) ∧ (-9223372036854775808 ≤ x.watch ∧ x.watch ≤ 9223372036854775807) ∧ (-9223372036854775808 ≤ x.quorum ∧ x.quorum ≤ 9223372036854775807)
theorem stays_Town : Stays RTown := fun _ _ _ _ h _ => h
theorem struct_Town : (match Try.prog.underlying 46 with | some (.struct fs) => some (fs.map fun f => (f.type, f.offset)) | _ => none) = some #[(9, 0), (3, 1), (3, 2), (3, 3), (3, 4), (3, 5), (3, 6)] := by kernel_rfl
theorem cells_Town : Try.prog.cellsOf 46 = 7 := by kernel_rfl
set_option maxRecDepth 100000 in
theorem Town_of_rd {w : World} (cs : List Value) (h : Rd Try.prog w 46 cs) : ∃ x : TownV, RTown x cs w := by
  have hl := h.len struct_Town
  rw [cells_Town] at hl
  have h0 := h.field struct_Town (i := 0) (u := 9) (o := 0) (size := 1) rfl (by kernel_rfl)
  have h1 := h.field struct_Town (i := 1) (u := 3) (o := 1) (size := 1) rfl (by kernel_rfl)
  have h2 := h.field struct_Town (i := 2) (u := 3) (o := 2) (size := 1) rfl (by kernel_rfl)
  have h3 := h.field struct_Town (i := 3) (u := 3) (o := 3) (size := 1) rfl (by kernel_rfl)
  have h4 := h.field struct_Town (i := 4) (u := 3) (o := 4) (size := 1) rfl (by kernel_rfl)
  have h5 := h.field struct_Town (i := 5) (u := 3) (o := 5) (size := 1) rfl (by kernel_rfl)
  have h6 := h.field struct_Town (i := 6) (u := 3) (o := 6) (size := 1) rfl (by kernel_rfl)
  match cs, hl with
  | [c0, c1, c2, c3, c4, c5, c6], _ =>
    simp only [List.drop_zero, List.drop_succ_cons, List.take_succ_cons, List.take_zero] at h0 h1 h2 h3 h4 h5 h6
    obtain ⟨x0, e0, b0⟩ := rstr_of_rd (w := w) und_S _ h0
    obtain ⟨x1, e1, b1⟩ := rint_of_rd (w := w) und_I _ h1
    obtain ⟨x2, e2, b2⟩ := rint_of_rd (w := w) und_I _ h2
    obtain ⟨x3, e3, b3⟩ := rint_of_rd (w := w) und_I _ h3
    obtain ⟨x4, e4, b4⟩ := rint_of_rd (w := w) und_I _ h4
    obtain ⟨x5, e5, b5⟩ := rint_of_rd (w := w) und_I _ h5
    obtain ⟨x6, e6, b6⟩ := rint_of_rd (w := w) und_I _ h6
    simp only [List.cons.injEq, and_true] at e0 e1 e2 e3 e4 e5 e6
    exact ⟨⟨x0, x1, x2, x3, x4, x5, x6⟩, by rw [e0, e1, e2, e3, e4, e5, e6], b0, b1, b2, b3, b4, b5, b6⟩
structure SightV where
  crest : Int
  quorum : Bool
def RSight (x : SightV) (cs : List Value) (_ : World) : Prop := cs = [.int .i64 x.crest, .bool x.quorum] ∧ (-9223372036854775808 ≤ x.crest ∧ x.crest ≤ 9223372036854775807)
theorem stays_Sight : Stays RSight := fun _ _ _ _ h _ => h
theorem struct_Sight : (match Try.prog.underlying 70 with | some (.struct fs) => some (fs.map fun f => (f.type, f.offset)) | _ => none) = some #[(3, 0), (4, 1)] := by kernel_rfl
theorem cells_Sight : Try.prog.cellsOf 70 = 2 := by kernel_rfl
set_option maxRecDepth 100000 in
theorem Sight_of_rd {w : World} (cs : List Value) (h : Rd Try.prog w 70 cs) : ∃ x : SightV, RSight x cs w := by
  have hl := h.len struct_Sight
  rw [cells_Sight] at hl
  have h0 := h.field struct_Sight (i := 0) (u := 3) (o := 0) (size := 1) rfl (by kernel_rfl)
  have h1 := h.field struct_Sight (i := 1) (u := 4) (o := 1) (size := 1) rfl (by kernel_rfl)
  match cs, hl with
  | [c0, c1], _ =>
    simp only [List.drop_zero, List.drop_succ_cons, List.take_succ_cons, List.take_zero] at h0 h1
    obtain ⟨x0, e0, b0⟩ := rint_of_rd (w := w) und_I _ h0
    obtain ⟨x1, e1⟩ := rbool_of_rd (w := w) und_B _ h1
    simp only [List.cons.injEq, and_true] at e0 e1
    exact ⟨⟨x0, x1⟩, by rw [e0, e1], b0⟩
set_option maxRecDepth 100000 in
theorem arg_Town {H : Type} {enc : TypeId × Value → H} {W : World} {base : Nat} {v : Value} {d : DataW H} {ps : List MemPlace} (hval : Value.okWide Try.prog W .any base 46 v)
    (h : DataW.Trod enc Try.prog W 0 (fun _ => true) true 46 v d ps) : ∃ (x : TownV) (cs : List Value), v = .agg cs.toArray ∧ RTown x cs W := by
  have hs := struct_Town
  split at hs
  · next fs hu =>
    obtain ⟨cs, rfl, _⟩ := Go.WideShapes.okWide_struct hu hval
    obtain ⟨x, hx⟩ := Town_of_rd _ (Rd.of_trod h)
    exact ⟨x, cs.toList, rfl, hx⟩
  · cases hs
theorem arg_sights {H : Type} {enc : TypeId × Value → H} {W : World} {base : Nat} {v : Value} {d : DataW H} {ps : List MemPlace} (hval : Value.okWide Try.prog W .any base 47 v)
    (h : DataW.Trod enc Try.prog W 0 (fun _ => true) true 47 v d ps) : ∃ l : List SightV, LArg RSight 2 v l W := by
  obtain ⟨a0, len0, cap0, rfl⟩ := Go.WideShapes.okWide_slice und_L0 hval
  exact LArg.of_rd und_L0 (by kernel_rfl) (by decide) Sight_of_rd (Rd.of_trod h)
end Go.Proofs.Ythijckdablkofaa
