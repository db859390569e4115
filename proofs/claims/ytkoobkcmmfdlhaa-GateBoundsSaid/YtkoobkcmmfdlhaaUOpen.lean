/- Links, gates, spans and what is known, that came in. -/
import Derived.Test.YtkoobkcmmfdlhaaProg
import Derived.Test.YtkoobkcmmfdlhaaULaw
import Derived.Test.YtkoobkcmmfdlhaaRd
import Derived.KernelRfl
namespace Go.Proofs.Ytkoobkcmmfdlhaa
open Go.RowKit
theorem und_I : Try.prog.underlying 3 = some (.int .i64) := by kernel_rfl
theorem und_B : Try.prog.underlying 4 = some .bool := by kernel_rfl
theorem und_S : Try.prog.underlying 9 = some .string := by kernel_rfl
theorem und_L0 : Try.prog.underlying 22 = some (.slice 63) := by kernel_rfl
def RPoint (x : PointV) (cs : List Value) (_ : World) : Prop := cs = [.int .i64 x.x, .int .i64 x.y] ∧ (-9223372036854775808 ≤ x.x ∧ x.x ≤ 9223372036854775807) ∧ (-9223372036854775808 ≤ x.y ∧ x.y ≤ 9223372036854775807)
theorem stays_Point : Stays RPoint := fun _ _ _ _ h _ => h
theorem struct_Point : (match Try.prog.underlying 63 with | some (.struct fs) => some (fs.map fun f => (f.type, f.offset)) | _ => none) = some #[(3, 0), (3, 1)] := by kernel_rfl
theorem cells_Point : Try.prog.cellsOf 63 = 2 := by kernel_rfl
set_option maxRecDepth 100000 in
theorem Point_of_rd {w : World} (cs : List Value) (h : Rd Try.prog w 63 cs) : ∃ x : PointV, RPoint x cs w := by
  have hl := h.len struct_Point
  rw [cells_Point] at hl
  have h0 := h.field struct_Point (i := 0) (u := 3) (o := 0) (size := 1) rfl (by kernel_rfl)
  have h1 := h.field struct_Point (i := 1) (u := 3) (o := 1) (size := 1) rfl (by kernel_rfl)
  match cs, hl with
  | [c0, c1], _ =>
    simp only [List.drop_zero, List.drop_succ_cons, List.take_succ_cons, List.take_zero] at h0 h1
    obtain ⟨x0, e0, b0⟩ := rint_of_rd (w := w) und_I _ h0
    obtain ⟨x1, e1, b1⟩ := rint_of_rd (w := w) und_I _ h1
    simp only [List.cons.injEq, and_true] at e0 e1
    exact ⟨⟨x0, x1⟩, by rw [e0, e1], b0, b1⟩
def RBand (x : BandV) (cs : List Value) (w : World) : Prop := ∃ v0 v1 : Value, cs = [v0, v1] ∧ LArg RPoint 2 v0 x.lo w ∧ LArg RPoint 2 v1 x.hi w
theorem stays_Band : Stays RBand := fun _ _ _ _ ⟨v0, v1, h0, l0, l1⟩ hb => ⟨v0, v1, h0, l0.below stays_Point hb, l1.below stays_Point hb⟩
theorem struct_Band : (match Try.prog.underlying 24 with | some (.struct fs) => some (fs.map fun f => (f.type, f.offset)) | _ => none) = some #[(22, 0), (22, 1)] := by kernel_rfl
theorem cells_Band : Try.prog.cellsOf 24 = 2 := by kernel_rfl
set_option maxRecDepth 100000 in
theorem Band_of_rd {w : World} (cs : List Value) (h : Rd Try.prog w 24 cs) : ∃ x : BandV, RBand x cs w := by
  have hl := h.len struct_Band
  rw [cells_Band] at hl
  have h0 := h.field struct_Band (i := 0) (u := 22) (o := 0) (size := 1) rfl (by kernel_rfl)
  have h1 := h.field struct_Band (i := 1) (u := 22) (o := 1) (size := 1) rfl (by kernel_rfl)
  match cs, hl with
  | [c0, c1], _ =>
    simp only [List.drop_zero, List.drop_succ_cons, List.take_succ_cons, List.take_zero] at h0 h1
    obtain ⟨x0, w0, e0, l0⟩ := rlist_of_rd (w := w) (R := RPoint) (size := 2) und_L0 (by kernel_rfl) (by decide) Point_of_rd _ h0
    obtain ⟨x1, w1, e1, l1⟩ := rlist_of_rd (w := w) (R := RPoint) (size := 2) und_L0 (by kernel_rfl) (by decide) Point_of_rd _ h1
    simp only [List.cons.injEq, and_true] at e0 e1
    exact ⟨⟨x0, x1⟩, w0, w1, by rw [e0, e1], l0, l1⟩
def RLink (x : LinkV) (cs : List Value) (w : World) : Prop := ∃ v0 v1 v2 : Value, cs = [.string x.name, .int .i64 x.kind, .int .i64 x.src, .int .i64 x.dst, v0, v1, v2, .int .i64 x.positions, .int .i64 x.speed, .int .i64 x.leak, .int .i64 x.crest, .int .i64 x.num, .int .i64 x.den, .int .i64 x.prime, .int .i64 x.brk, .int .i64 x.backNum, .int .i64 x.backDen, .int .i64 x.delay] ∧ x.name.size ≤ maxLen ∧ (-9223372036854775808 ≤ x.kind ∧ x.kind ≤ 9223372036854775807) ∧ (-9223372036854775808 ≤ x.src ∧ x.src ≤ 9223372036854775807) ∧ (-9223372036854775808 ≤ x.dst ∧ x.dst ≤ 9223372036854775807) ∧ (-9223372036854775808 ≤ x.positions ∧ x.positions ≤ 9223372036854775807) ∧ (-9223372036854775808 ≤ x.speed ∧ x.speed ≤ 9223372036854775807) ∧ (-9223372036854775808 ≤ x.leak ∧ x.leak ≤ 9223372036854775807) ∧ (-9223372036854775808 ≤ x.crest ∧ x.crest ≤ 9223372036854775807) ∧ (-9223372036854775808 ≤ x.num ∧ x.num ≤ 9223372036854775807) ∧ (-9223372036854775808 ≤ x.den ∧ x.den ≤ 9223372036854775807) ∧ (-9223372036854775808 ≤ x.prime ∧ x.prime ≤ 9223372036854775807) ∧ (-9223372036854775808 ≤ x.brk ∧ x.brk ≤ 9223372036854775807) ∧ (-9223372036854775808 ≤ x.backNum ∧ x.backNum ≤ 9223372036854775807) ∧ (-9223372036854775808 ≤ x.backDen ∧ x.backDen ≤ 9223372036854775807) ∧ (-9223372036854775808 ≤ x.delay ∧ x.delay ≤ 9223372036854775807) ∧ LArg RPoint 2 v0 x.rate w ∧ LArg RPoint 2 v1 x.band.lo w ∧ LArg RPoint 2 v2 x.band.hi w
theorem stays_Link : Stays RLink := fun _ _ _ _ ⟨v0, v1, v2, h0, b0, b1, b2, b3, b4, b5, b6, b7, b8, b9, b10, b11, b12, b13, b14, l0, l1, l2⟩ hb => ⟨v0, v1, v2, h0, b0, b1, b2, b3, b4, b5, b6, b7, b8, b9, b10, b11, b12, b13, b14, l0.below stays_Point hb, l1.below stays_Point hb, l2.below stays_Point hb⟩
theorem struct_Link : (match Try.prog.underlying 26 with | some (.struct fs) => some (fs.map fun f => (f.type, f.offset)) | _ => none) = some #[(9, 0), (3, 1), (3, 2), (3, 3), (22, 4), (24, 5), (3, 7), (3, 8), (3, 9), (3, 10), (3, 11), (3, 12), (3, 13), (3, 14), (3, 15), (3, 16), (3, 17)] := by kernel_rfl
theorem cells_Link : Try.prog.cellsOf 26 = 18 := by kernel_rfl
set_option maxRecDepth 100000 in
theorem Link_of_rd {w : World} (cs : List Value) (h : Rd Try.prog w 26 cs) : ∃ x : LinkV, RLink x cs w := by
  have hl := h.len struct_Link
  rw [cells_Link] at hl
  have h0 := h.field struct_Link (i := 0) (u := 9) (o := 0) (size := 1) rfl (by kernel_rfl)
  have h1 := h.field struct_Link (i := 1) (u := 3) (o := 1) (size := 1) rfl (by kernel_rfl)
  have h2 := h.field struct_Link (i := 2) (u := 3) (o := 2) (size := 1) rfl (by kernel_rfl)
  have h3 := h.field struct_Link (i := 3) (u := 3) (o := 3) (size := 1) rfl (by kernel_rfl)
  have h4 := h.field struct_Link (i := 4) (u := 22) (o := 4) (size := 1) rfl (by kernel_rfl)
  have h5 := h.field struct_Link (i := 5) (u := 24) (o := 5) (size := 2) rfl cells_Band
  have h6 := h.field struct_Link (i := 6) (u := 3) (o := 7) (size := 1) rfl (by kernel_rfl)
  have h7 := h.field struct_Link (i := 7) (u := 3) (o := 8) (size := 1) rfl (by kernel_rfl)
  have h8 := h.field struct_Link (i := 8) (u := 3) (o := 9) (size := 1) rfl (by kernel_rfl)
  have h9 := h.field struct_Link (i := 9) (u := 3) (o := 10) (size := 1) rfl (by kernel_rfl)
  have h10 := h.field struct_Link (i := 10) (u := 3) (o := 11) (size := 1) rfl (by kernel_rfl)
  have h11 := h.field struct_Link (i := 11) (u := 3) (o := 12) (size := 1) rfl (by kernel_rfl)
  have h12 := h.field struct_Link (i := 12) (u := 3) (o := 13) (size := 1) rfl (by kernel_rfl)
  have h13 := h.field struct_Link (i := 13) (u := 3) (o := 14) (size := 1) rfl (by kernel_rfl)
  have h14 := h.field struct_Link (i := 14) (u := 3) (o := 15) (size := 1) rfl (by kernel_rfl)
  have h15 := h.field struct_Link (i := 15) (u := 3) (o := 16) (size := 1) rfl (by kernel_rfl)
  have h16 := h.field struct_Link (i := 16) (u := 3) (o := 17) (size := 1) rfl (by kernel_rfl)
  match cs, hl with
  | [c0, c1, c2, c3, c4, c5, c6, c7, c8, c9, c10, c11, c12, c13, c14, c15, c16, c17], _ =>
    simp only [List.drop_zero, List.drop_succ_cons, List.take_succ_cons, List.take_zero] at h0 h1 h2 h3 h4 h5 h6 h7 h8 h9 h10 h11 h12 h13 h14 h15 h16
    obtain ⟨x0, e0, b0⟩ := rstr_of_rd (w := w) und_S _ h0
    obtain ⟨x1, e1, b1⟩ := rint_of_rd (w := w) und_I _ h1
    obtain ⟨x2, e2, b2⟩ := rint_of_rd (w := w) und_I _ h2
    obtain ⟨x3, e3, b3⟩ := rint_of_rd (w := w) und_I _ h3
    obtain ⟨x4, w4, e4, l4⟩ := rlist_of_rd (w := w) (R := RPoint) (size := 2) und_L0 (by kernel_rfl) (by decide) Point_of_rd _ h4
    obtain ⟨x5, w5_0, w5_1, e5, l5_0, l5_1⟩ := Band_of_rd (w := w) _ h5
    obtain ⟨x6, e6, b6⟩ := rint_of_rd (w := w) und_I _ h6
    obtain ⟨x7, e7, b7⟩ := rint_of_rd (w := w) und_I _ h7
    obtain ⟨x8, e8, b8⟩ := rint_of_rd (w := w) und_I _ h8
    obtain ⟨x9, e9, b9⟩ := rint_of_rd (w := w) und_I _ h9
    obtain ⟨x10, e10, b10⟩ := rint_of_rd (w := w) und_I _ h10
    obtain ⟨x11, e11, b11⟩ := rint_of_rd (w := w) und_I _ h11
    obtain ⟨x12, e12, b12⟩ := rint_of_rd (w := w) und_I _ h12
    obtain ⟨x13, e13, b13⟩ := rint_of_rd (w := w) und_I _ h13
    obtain ⟨x14, e14, b14⟩ := rint_of_rd (w := w) und_I _ h14
    obtain ⟨x15, e15, b15⟩ := rint_of_rd (w := w) und_I _ h15
    obtain ⟨x16, e16, b16⟩ := rint_of_rd (w := w) und_I _ h16
    simp only [List.cons.injEq, and_true] at e0 e1 e2 e3 e4 e5 e6 e7 e8 e9 e10 e11 e12 e13 e14 e15 e16
    exact ⟨⟨x0, x1, x2, x3, x4, x5, x6, x7, x8, x9, x10, x11, x12, x13, x14, x15, x16⟩, w4, w5_0, w5_1, by rw [e0, e1, e2, e3, e4, e5.1, e5.2, e6, e7, e8, e9, e10, e11, e12, e13, e14, e15, e16], b0, b1, b2, b3, b6, b7, b8, b9, b10, b11, b12, b13, b14, b15, b16, l4, l5_0, l5_1⟩
def RGate (x : GateV) (cs : List Value) (_ : World) : Prop := cs = [.int .i64 x.pos, .int .i64 x.target, .bool x.stuck, .bool x.opened] ∧ (-9223372036854775808 ≤ x.pos ∧ x.pos ≤ 9223372036854775807) ∧ (-9223372036854775808 ≤ x.target ∧ x.target ≤ 9223372036854775807)
theorem stays_Gate : Stays RGate := fun _ _ _ _ h _ => h
theorem struct_Gate : (match Try.prog.underlying 28 with | some (.struct fs) => some (fs.map fun f => (f.type, f.offset)) | _ => none) = some #[(3, 0), (3, 1), (4, 2), (4, 3)] := by kernel_rfl
theorem cells_Gate : Try.prog.cellsOf 28 = 4 := by kernel_rfl
set_option maxRecDepth 100000 in
theorem Gate_of_rd {w : World} (cs : List Value) (h : Rd Try.prog w 28 cs) : ∃ x : GateV, RGate x cs w := by
  have hl := h.len struct_Gate
  rw [cells_Gate] at hl
  have h0 := h.field struct_Gate (i := 0) (u := 3) (o := 0) (size := 1) rfl (by kernel_rfl)
  have h1 := h.field struct_Gate (i := 1) (u := 3) (o := 1) (size := 1) rfl (by kernel_rfl)
  have h2 := h.field struct_Gate (i := 2) (u := 4) (o := 2) (size := 1) rfl (by kernel_rfl)
  have h3 := h.field struct_Gate (i := 3) (u := 4) (o := 3) (size := 1) rfl (by kernel_rfl)
  match cs, hl with
  | [c0, c1, c2, c3], _ =>
    simp only [List.drop_zero, List.drop_succ_cons, List.take_succ_cons, List.take_zero] at h0 h1 h2 h3
    obtain ⟨x0, e0, b0⟩ := rint_of_rd (w := w) und_I _ h0
    obtain ⟨x1, e1, b1⟩ := rint_of_rd (w := w) und_I _ h1
    obtain ⟨x2, e2⟩ := rbool_of_rd (w := w) und_B _ h2
    unfold RBool at e2
    obtain ⟨x3, e3⟩ := rbool_of_rd (w := w) und_B _ h3
    unfold RBool at e3
    simp only [List.cons.injEq, and_true] at e0 e1 e2 e3
    exact ⟨⟨x0, x1, x2, x3⟩, by rw [e0, e1, e2, e3], b0, b1⟩
structure SpanV where
  lo : Int
  hi : Int
def RSpan (x : SpanV) (cs : List Value) (_ : World) : Prop := cs = [.int .i64 x.lo, .int .i64 x.hi] ∧ (-9223372036854775808 ≤ x.lo ∧ x.lo ≤ 9223372036854775807) ∧ (-9223372036854775808 ≤ x.hi ∧ x.hi ≤ 9223372036854775807)
theorem stays_Span : Stays RSpan := fun _ _ _ _ h _ => h
theorem struct_Span : (match Try.prog.underlying 50 with | some (.struct fs) => some (fs.map fun f => (f.type, f.offset)) | _ => none) = some #[(3, 0), (3, 1)] := by kernel_rfl
theorem cells_Span : Try.prog.cellsOf 50 = 2 := by kernel_rfl
set_option maxRecDepth 100000 in
theorem Span_of_rd {w : World} (cs : List Value) (h : Rd Try.prog w 50 cs) : ∃ x : SpanV, RSpan x cs w := by
  have hl := h.len struct_Span
  rw [cells_Span] at hl
  have h0 := h.field struct_Span (i := 0) (u := 3) (o := 0) (size := 1) rfl (by kernel_rfl)
  have h1 := h.field struct_Span (i := 1) (u := 3) (o := 1) (size := 1) rfl (by kernel_rfl)
  match cs, hl with
  | [c0, c1], _ =>
    simp only [List.drop_zero, List.drop_succ_cons, List.take_succ_cons, List.take_zero] at h0 h1
    obtain ⟨x0, e0, b0⟩ := rint_of_rd (w := w) und_I _ h0
    obtain ⟨x1, e1, b1⟩ := rint_of_rd (w := w) und_I _ h1
    simp only [List.cons.injEq, and_true] at e0 e1
    exact ⟨⟨x0, x1⟩, by rw [e0, e1], b0, b1⟩
structure KnownV where
  pos : SpanV
  target : Int
  opened : SpanV
def RKnown (x : KnownV) (cs : List Value) (_ : World) : Prop := cs = [.int .i64 x.pos.lo, .int .i64 x.pos.hi, .int .i64 x.target, .int .i64 x.opened.lo, .int .i64 x.opened.hi] ∧ (-9223372036854775808 ≤ x.pos.lo ∧ x.pos.lo ≤ 9223372036854775807) ∧ (-9223372036854775808 ≤ x.pos.hi ∧ x.pos.hi ≤ 9223372036854775807) ∧ (-9223372036854775808 ≤ x.target ∧ x.target ≤ 9223372036854775807) ∧ (-9223372036854775808 ≤ x.opened.lo ∧ x.opened.lo ≤ 9223372036854775807) ∧ (-9223372036854775808 ≤ x.opened.hi ∧ x.opened.hi ≤ 9223372036854775807)
theorem stays_Known : Stays RKnown := fun _ _ _ _ h _ => h
theorem struct_Known : (match Try.prog.underlying 52 with | some (.struct fs) => some (fs.map fun f => (f.type, f.offset)) | _ => none) = some #[(50, 0), (3, 2), (50, 3)] := by kernel_rfl
theorem cells_Known : Try.prog.cellsOf 52 = 5 := by kernel_rfl
set_option maxRecDepth 100000 in
theorem Known_of_rd {w : World} (cs : List Value) (h : Rd Try.prog w 52 cs) : ∃ x : KnownV, RKnown x cs w := by
  have hl := h.len struct_Known
  rw [cells_Known] at hl
  have h0 := h.field struct_Known (i := 0) (u := 50) (o := 0) (size := 2) rfl cells_Span
  have h1 := h.field struct_Known (i := 1) (u := 3) (o := 2) (size := 1) rfl (by kernel_rfl)
  have h2 := h.field struct_Known (i := 2) (u := 50) (o := 3) (size := 2) rfl cells_Span
  match cs, hl with
  | [c0, c1, c2, c3, c4], _ =>
    simp only [List.drop_zero, List.drop_succ_cons, List.take_succ_cons, List.take_zero] at h0 h1 h2
    obtain ⟨x0, e0, b0_0, b0_1⟩ := Span_of_rd (w := w) _ h0
    obtain ⟨x1, e1, b1⟩ := rint_of_rd (w := w) und_I _ h1
    obtain ⟨x2, e2, b2_0, b2_1⟩ := Span_of_rd (w := w) _ h2
    simp only [List.cons.injEq, and_true] at e0 e1 e2
    exact ⟨⟨x0, x1, x2⟩, by rw [e0.1, e0.2, e1, e2.1, e2.2], b0_0, b0_1, b1, b2_0, b2_1⟩
set_option maxRecDepth 100000 in
theorem arg_Link {H : Type} {enc : TypeId × Value → H} {W : World} {base : Nat} {v : Value} {d : DataW H} {ps : List MemPlace} (hval : Value.okWide Try.prog W .any base 26 v)
    (h : DataW.Trod enc Try.prog W 0 (fun _ => true) true 26 v d ps) : ∃ (x : LinkV) (cs : List Value), v = .agg cs.toArray ∧ RLink x cs W := by
  have hs := struct_Link
  split at hs
  · next fs hu =>
    obtain ⟨cs, rfl, _⟩ := Go.WideShapes.okWide_struct hu hval
    obtain ⟨x, hx⟩ := Link_of_rd _ (Rd.of_trod h)
    exact ⟨x, cs.toList, rfl, hx⟩
  · cases hs
set_option maxRecDepth 100000 in
theorem arg_Gate {H : Type} {enc : TypeId × Value → H} {W : World} {base : Nat} {v : Value} {d : DataW H} {ps : List MemPlace} (hval : Value.okWide Try.prog W .any base 28 v)
    (h : DataW.Trod enc Try.prog W 0 (fun _ => true) true 28 v d ps) : ∃ (x : GateV) (cs : List Value), v = .agg cs.toArray ∧ RGate x cs W := by
  have hs := struct_Gate
  split at hs
  · next fs hu =>
    obtain ⟨cs, rfl, _⟩ := Go.WideShapes.okWide_struct hu hval
    obtain ⟨x, hx⟩ := Gate_of_rd _ (Rd.of_trod h)
    exact ⟨x, cs.toList, rfl, hx⟩
  · cases hs
set_option maxRecDepth 100000 in
theorem arg_Span {H : Type} {enc : TypeId × Value → H} {W : World} {base : Nat} {v : Value} {d : DataW H} {ps : List MemPlace} (hval : Value.okWide Try.prog W .any base 50 v)
    (h : DataW.Trod enc Try.prog W 0 (fun _ => true) true 50 v d ps) : ∃ (x : SpanV) (cs : List Value), v = .agg cs.toArray ∧ RSpan x cs W := by
  have hs := struct_Span
  split at hs
  · next fs hu =>
    obtain ⟨cs, rfl, _⟩ := Go.WideShapes.okWide_struct hu hval
    obtain ⟨x, hx⟩ := Span_of_rd _ (Rd.of_trod h)
    exact ⟨x, cs.toList, rfl, hx⟩
  · cases hs
set_option maxRecDepth 100000 in
theorem arg_Known {H : Type} {enc : TypeId × Value → H} {W : World} {base : Nat} {v : Value} {d : DataW H} {ps : List MemPlace} (hval : Value.okWide Try.prog W .any base 52 v)
    (h : DataW.Trod enc Try.prog W 0 (fun _ => true) true 52 v d ps) : ∃ (x : KnownV) (cs : List Value), v = .agg cs.toArray ∧ RKnown x cs W := by
  have hs := struct_Known
  split at hs
  · next fs hu =>
    obtain ⟨cs, rfl, _⟩ := Go.WideShapes.okWide_struct hu hval
    obtain ⟨x, hx⟩ := Known_of_rd _ (Rd.of_trod h)
    exact ⟨x, cs.toList, rfl, hx⟩
  · cases hs
set_option maxRecDepth 100000 in
theorem arg_points {H : Type} {enc : TypeId × Value → H} {W : World} {base : Nat} {v : Value} {d : DataW H} {ps : List MemPlace} (hval : Value.okWide Try.prog W .any base 22 v)
    (h : DataW.Trod enc Try.prog W 0 (fun _ => true) true 22 v d ps) : ∃ l : List PointV, LArg RPoint 2 v l W := by
  obtain ⟨a0, len0, cap0, rfl⟩ := Go.WideShapes.okWide_slice und_L0 hval
  exact LArg.of_rd und_L0 (by kernel_rfl) (by decide) Point_of_rd (Rd.of_trod h)
end Go.Proofs.Ytkoobkcmmfdlhaa
