/- Entries that came in. -/
import Derived.Test.YtokbandookjdjaaGreatProg
import Derived.Test.YtokbandookjdjaaGreatRd
import Derived.KernelRfl
namespace Go.Proofs.YtokbandookjdjaaGreat
open Go.RowKit
theorem und_I : Tryz.prog.underlying 3 = some (.int .i64) := by kernel_rfl
theorem und_B : Tryz.prog.underlying 4 = some .bool := by kernel_rfl
theorem und_L0 : Tryz.prog.underlying 22 = some (.slice 25) := by kernel_rfl
structure EntryV where
  day : Int
  known : Int
  owner : Int
  place : Int
  litres : Int
  why : Int
  ref : Int
def REntry (x : EntryV) (cs : List Value) (_ : World) : Prop := cs = [.int .i64 x.day, .int .i64 x.known, .int .i64 x.owner, .int .i64 x.place, .int .i64 x.litres, .int .i64 x.why, .int .i64 x.ref] ∧ (-9223372036854775808 ≤ x.day ∧ x.day ≤ 9223372036854775807) ∧ (-9223372036854775808 ≤ x.known ∧ x.known ≤ 9223372036854775807) ∧ (-9223372036854775808 ≤ x.owner ∧ x.owner ≤ 9223372036854775807) ∧ (-9223372036854775808 ≤ x.place ∧ x.place ≤ 9223372036854775807) ∧ (-9223372036854775808 ≤ x.litres ∧ x.litres ≤ 9223372036854775807) ∧ (-9223372036854775808 ≤ x.why ∧ x.why ≤ 9223372036854775807) ∧ (-9223372036854775808 ≤ x.ref ∧ x.ref ≤ 9223372036854775807)
theorem stays_Entry : Stays REntry := fun _ _ _ _ h _ => h
theorem struct_Entry : (match Tryz.prog.underlying 25 with | some (.struct fs) => some (fs.map fun f => (f.type, f.offset)) | _ => none) = some #[(3, 0), (3, 1), (3, 2), (3, 3), (3, 4), (3, 5), (3, 6)] := by kernel_rfl
theorem cells_Entry : Tryz.prog.cellsOf 25 = 7 := by kernel_rfl
set_option maxRecDepth 100000 in
theorem Entry_of_rd {w : World} (cs : List Value) (h : Rd Tryz.prog w 25 cs) : ∃ x : EntryV, REntry x cs w := by
  have hl := h.len struct_Entry
  rw [cells_Entry] at hl
  have h0 := h.field struct_Entry (i := 0) (u := 3) (o := 0) (size := 1) rfl (by kernel_rfl)
  have h1 := h.field struct_Entry (i := 1) (u := 3) (o := 1) (size := 1) rfl (by kernel_rfl)
  have h2 := h.field struct_Entry (i := 2) (u := 3) (o := 2) (size := 1) rfl (by kernel_rfl)
  have h3 := h.field struct_Entry (i := 3) (u := 3) (o := 3) (size := 1) rfl (by kernel_rfl)
  have h4 := h.field struct_Entry (i := 4) (u := 3) (o := 4) (size := 1) rfl (by kernel_rfl)
  have h5 := h.field struct_Entry (i := 5) (u := 3) (o := 5) (size := 1) rfl (by kernel_rfl)
  have h6 := h.field struct_Entry (i := 6) (u := 3) (o := 6) (size := 1) rfl (by kernel_rfl)
  match cs, hl with
  | [c0, c1, c2, c3, c4, c5, c6], _ =>
    simp only [List.drop_zero, List.drop_succ_cons, List.take_succ_cons, List.take_zero] at h0 h1 h2 h3 h4 h5 h6
    obtain ⟨x0, e0, b0⟩ := rint_of_rd (w := w) und_I _ h0
    obtain ⟨x1, e1, b1⟩ := rint_of_rd (w := w) und_I _ h1
    obtain ⟨x2, e2, b2⟩ := rint_of_rd (w := w) und_I _ h2
    obtain ⟨x3, e3, b3⟩ := rint_of_rd (w := w) und_I _ h3
    obtain ⟨x4, e4, b4⟩ := rint_of_rd (w := w) und_I _ h4
    obtain ⟨x5, e5, b5⟩ := rint_of_rd (w := w) und_I _ h5
    obtain ⟨x6, e6, b6⟩ := rint_of_rd (w := w) und_I _ h6
    simp only [List.cons.injEq, and_true] at e0 e1 e2 e3 e4 e5 e6
    exact ⟨⟨x0, x1, x2, x3, x4, x5, x6⟩, by rw [e0, e1, e2, e3, e4, e5, e6], b0, b1, b2, b3, b4, b5, b6⟩
set_option maxRecDepth 100000 in
theorem arg_ents {H : Type} {enc : TypeId × Value → H} {W : World} {base : Nat} {v : Value} {d : DataW H} {ps : List MemPlace} (hval : Value.okWide Tryz.prog W .any base 22 v)
    (h : DataW.Trod enc Tryz.prog W 0 (fun _ => true) true 22 v d ps) : ∃ l : List EntryV, LArg REntry 7 v l W := by
  obtain ⟨a0, len0, cap0, rfl⟩ := Go.WideShapes.okWide_slice und_L0 hval
  exact LArg.of_rd und_L0 (by kernel_rfl) (by decide) Entry_of_rd (Rd.of_trod h)
end Go.Proofs.YtokbandookjdjaaGreat
