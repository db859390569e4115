/- Forecasts and news that came in. -/
import Derived.Test.YtleiiedacachjaaProg
import Derived.Test.YtleiiedacachjaaRd
import Derived.KernelRfl
namespace Go.Proofs.Ytleiiedacachjaa
open Go.RowKit
theorem und_I : Try.prog.underlying 3 = some (.int .i64) := by kernel_rfl
theorem und_B : Try.prog.underlying 4 = some .bool := by kernel_rfl
theorem und_S : Try.prog.underlying 9 = some .string := by kernel_rfl
theorem und_L0 : Try.prog.underlying 25 = some (.slice 50) := by kernel_rfl
theorem und_L1 : Try.prog.underlying 50 = some (.slice 54) := by kernel_rfl
theorem und_L2 : Try.prog.underlying 22 = some (.slice 29) := by kernel_rfl
theorem und_L3 : Try.prog.underlying 36 = some (.slice 3) := by kernel_rfl
structure SpanV where
  lo : Int
  hi : Int
def RSpan (x : SpanV) (cs : List Value) (_ : World) : Prop := cs = [.int .i64 x.lo, .int .i64 x.hi] ∧ (-9223372036854775808 ≤ x.lo ∧ x.lo ≤ 9223372036854775807) ∧ (-9223372036854775808 ≤ x.hi ∧ x.hi ≤ 9223372036854775807)
theorem stays_Span : Stays RSpan := fun _ _ _ _ h _ => h
theorem struct_Span : (match Try.prog.underlying 54 with | some (.struct fs) => some (fs.map fun f => (f.type, f.offset)) | _ => none) = some #[(3, 0), (3, 1)] := by kernel_rfl
theorem cells_Span : Try.prog.cellsOf 54 = 2 := by kernel_rfl
set_option maxRecDepth 100000 in
theorem Span_of_rd {w : World} (cs : List Value) (h : Rd Try.prog w 54 cs) : ∃ x : SpanV, RSpan x cs w := by
  have hl := h.len struct_Span
  rw [cells_Span] at hl
  have h0 := h.field struct_Span (i := 0) (u := 3) (o := 0) (size := 1) rfl (by kernel_rfl)
  have h1 := h.field struct_Span (i := 1) (u := 3) (o := 1) (size := 1) rfl (by kernel_rfl)
  match cs, hl with
  | [c0, c1], _ =>
    simp only [List.drop_zero, List.drop_succ_cons, List.take_succ_cons, List.take_zero] at h0 h1
    obtain ⟨x0, e0, b0⟩ := rint_of_rd (w := w) und_I _ h0
    obtain ⟨x1, e1, b1⟩ := rint_of_rd (w := w) und_I _ h1
    simp only [List.cons.injEq, and_true] at e0 e1
    exact ⟨⟨x0, x1⟩, by rw [e0, e1], b0, b1⟩
structure CastV where
  id : Int
  src : Int
  rain : (List (List SpanV))
def RCast (x : CastV) (cs : List Value) (w : World) : Prop := ∃ v0 : Value, cs = [.int .i64 x.id, .int .i64 x.src, v0] ∧ (-9223372036854775808 ≤ x.id ∧ x.id ≤ 9223372036854775807) ∧ (-9223372036854775808 ≤ x.src ∧ x.src ≤ 9223372036854775807) ∧ LArg (RList RSpan 2) 1 v0 x.rain w
theorem stays_Cast : Stays RCast := fun _ _ _ _ ⟨v0, h0, b0, b1, l0⟩ hb => ⟨v0, h0, b0, b1, l0.below (stays_list stays_Span 2) hb⟩
theorem struct_Cast : (match Try.prog.underlying 27 with | some (.struct fs) => some (fs.map fun f => (f.type, f.offset)) | _ => none) = some #[(3, 0), (3, 1), (25, 2)] := by kernel_rfl
theorem cells_Cast : Try.prog.cellsOf 27 = 3 := by kernel_rfl
set_option maxRecDepth 100000 in
theorem Cast_of_rd {w : World} (cs : List Value) (h : Rd Try.prog w 27 cs) : ∃ x : CastV, RCast x cs w := by
  have hl := h.len struct_Cast
  rw [cells_Cast] at hl
  have h0 := h.field struct_Cast (i := 0) (u := 3) (o := 0) (size := 1) rfl (by kernel_rfl)
  have h1 := h.field struct_Cast (i := 1) (u := 3) (o := 1) (size := 1) rfl (by kernel_rfl)
  have h2 := h.field struct_Cast (i := 2) (u := 25) (o := 2) (size := 1) rfl (by kernel_rfl)
  match cs, hl with
  | [c0, c1, c2], _ =>
    simp only [List.drop_zero, List.drop_succ_cons, List.take_succ_cons, List.take_zero] at h0 h1 h2
    obtain ⟨x0, e0, b0⟩ := rint_of_rd (w := w) und_I _ h0
    obtain ⟨x1, e1, b1⟩ := rint_of_rd (w := w) und_I _ h1
    obtain ⟨x2, w2, e2, l2⟩ := rlist_of_rd (w := w) (R := (RList RSpan 2)) (size := 1) und_L0 (by kernel_rfl) (by decide) (rlist_of_rd und_L1 (by kernel_rfl) (by decide) Span_of_rd) _ h2
    simp only [List.cons.injEq, and_true] at e0 e1 e2
    exact ⟨⟨x0, x1, x2⟩, w2, by rw [e0, e1, e2], b0, b1, l2⟩
structure NewsV where
  kind : Int
  known : Int
  cast : CastV
def RNews (x : NewsV) (cs : List Value) (w : World) : Prop := ∃ v0 : Value, cs = [.int .i64 x.kind, .int .i64 x.known, .int .i64 x.cast.id, .int .i64 x.cast.src, v0] ∧ (-9223372036854775808 ≤ x.kind ∧ x.kind ≤ 9223372036854775807) ∧ (-9223372036854775808 ≤ x.known ∧ x.known ≤ 9223372036854775807) ∧ (-9223372036854775808 ≤ x.cast.id ∧ x.cast.id ≤ 9223372036854775807) ∧ (-9223372036854775808 ≤ x.cast.src ∧ x.cast.src ≤ 9223372036854775807) ∧ LArg (RList RSpan 2) 1 v0 x.cast.rain w
theorem stays_News : Stays RNews := fun _ _ _ _ ⟨v0, h0, b0, b1, b2, b3, l0⟩ hb => ⟨v0, h0, b0, b1, b2, b3, l0.below (stays_list stays_Span 2) hb⟩
theorem struct_News : (match Try.prog.underlying 29 with | some (.struct fs) => some (fs.map fun f => (f.type, f.offset)) | _ => none) = some #[(3, 0), (3, 1), (27, 2)] := by kernel_rfl
theorem cells_News : Try.prog.cellsOf 29 = 5 := by kernel_rfl
set_option maxRecDepth 100000 in
theorem News_of_rd {w : World} (cs : List Value) (h : Rd Try.prog w 29 cs) : ∃ x : NewsV, RNews x cs w := by
  have hl := h.len struct_News
  rw [cells_News] at hl
  have h0 := h.field struct_News (i := 0) (u := 3) (o := 0) (size := 1) rfl (by kernel_rfl)
  have h1 := h.field struct_News (i := 1) (u := 3) (o := 1) (size := 1) rfl (by kernel_rfl)
  have h2 := h.field struct_News (i := 2) (u := 27) (o := 2) (size := 3) rfl cells_Cast
  match cs, hl with
  | [c0, c1, c2, c3, c4], _ =>
    simp only [List.drop_zero, List.drop_succ_cons, List.take_succ_cons, List.take_zero] at h0 h1 h2
    obtain ⟨x0, e0, b0⟩ := rint_of_rd (w := w) und_I _ h0
    obtain ⟨x1, e1, b1⟩ := rint_of_rd (w := w) und_I _ h1
    obtain ⟨x2, w2_0, e2, b2_0, b2_1, l2_0⟩ := Cast_of_rd (w := w) _ h2
    simp only [List.cons.injEq, and_true] at e0 e1 e2
    exact ⟨⟨x0, x1, x2⟩, w2_0, by rw [e0, e1, e2.1, e2.2.1, e2.2.2], b0, b1, b2_0, b2_1, l2_0⟩
set_option maxRecDepth 100000 in
theorem arg_Cast {H : Type} {enc : TypeId × Value → H} {W : World} {base : Nat} {v : Value} {d : DataW H} {ps : List MemPlace} (hval : Value.okWide Try.prog W .any base 27 v)
    (h : DataW.Trod enc Try.prog W 0 (fun _ => true) true 27 v d ps) : ∃ (x : CastV) (cs : List Value), v = .agg cs.toArray ∧ RCast x cs W := by
  have hs := struct_Cast
  split at hs
  · next fs hu =>
    obtain ⟨cs, rfl, _⟩ := Go.WideShapes.okWide_struct hu hval
    obtain ⟨x, hx⟩ := Cast_of_rd _ (Rd.of_trod h)
    exact ⟨x, cs.toList, rfl, hx⟩
  · cases hs
set_option maxRecDepth 100000 in
theorem arg_News {H : Type} {enc : TypeId × Value → H} {W : World} {base : Nat} {v : Value} {d : DataW H} {ps : List MemPlace} (hval : Value.okWide Try.prog W .any base 29 v)
    (h : DataW.Trod enc Try.prog W 0 (fun _ => true) true 29 v d ps) : ∃ (x : NewsV) (cs : List Value), v = .agg cs.toArray ∧ RNews x cs W := by
  have hs := struct_News
  split at hs
  · next fs hu =>
    obtain ⟨cs, rfl, _⟩ := Go.WideShapes.okWide_struct hu hval
    obtain ⟨x, hx⟩ := News_of_rd _ (Rd.of_trod h)
    exact ⟨x, cs.toList, rfl, hx⟩
  · cases hs
set_option maxRecDepth 100000 in
theorem arg_news {H : Type} {enc : TypeId × Value → H} {W : World} {base : Nat} {v : Value} {d : DataW H} {ps : List MemPlace} (hval : Value.okWide Try.prog W .any base 22 v)
    (h : DataW.Trod enc Try.prog W 0 (fun _ => true) true 22 v d ps) : ∃ l : List NewsV, LArg RNews 5 v l W := by
  obtain ⟨a0, len0, cap0, rfl⟩ := Go.WideShapes.okWide_slice und_L2 hval
  exact LArg.of_rd und_L2 (by kernel_rfl) (by decide) News_of_rd (Rd.of_trod h)
set_option maxRecDepth 100000 in
theorem arg_ints {H : Type} {enc : TypeId × Value → H} {W : World} {base : Nat} {v : Value} {d : DataW H} {ps : List MemPlace} (hval : Value.okWide Try.prog W .any base 36 v)
    (h : DataW.Trod enc Try.prog W 0 (fun _ => true) true 36 v d ps) : ∃ l : List Int, LArg RInt 1 v l W := by
  obtain ⟨a0, len0, cap0, rfl⟩ := Go.WideShapes.okWide_slice und_L3 hval
  exact LArg.of_rd und_L3 (by kernel_rfl) (by decide) (rint_of_rd und_I) (Rd.of_trod h)
end Go.Proofs.Ytleiiedacachjaa
