/- Claims and promises that came in. -/
import Derived.Test.YtgjklfddoechpaaGreatDoorCClos
import Derived.Test.YtgjklfddoechpaaGreatDoorGArgs
import Derived.Test.YtgjklfddoechpaaGreatDoorRd
import Derived.KernelRfl
namespace Go.Proofs.YtgjklfddoechpaaGreatDoor
open Go.RowKit
theorem und_I : Tryz.prog.underlying 3 = some (.int .i64) := by kernel_rfl
theorem und_B : Tryz.prog.underlying 4 = some .bool := by kernel_rfl
theorem und_S : Tryz.prog.underlying 9 = some .string := by kernel_rfl
theorem und_L0 : Tryz.prog.underlying 31 = some (.slice 25) := by kernel_rfl
structure SigV where
  e : Int
  s : Int
def RSig (x : SigV) (cs : List Value) (_ : World) : Prop := cs = [.int .i64 x.e, .int .i64 x.s] ∧ (-9223372036854775808 ≤ x.e ∧ x.e ≤ 9223372036854775807) ∧ (-9223372036854775808 ≤ x.s ∧ x.s ≤ 9223372036854775807)
theorem stays_Sig : Stays RSig := fun _ _ _ _ h _ => h
theorem struct_Sig : (match Tryz.prog.underlying 23 with | some (.struct fs) => some (fs.map fun f => (f.type, f.offset)) | _ => none) = some #[(3, 0), (3, 1)] := by kernel_rfl
theorem cells_Sig : Tryz.prog.cellsOf 23 = 2 := by kernel_rfl
set_option maxRecDepth 100000 in
theorem Sig_of_rd {w : World} (cs : List Value) (h : Rd Tryz.prog w 23 cs) : ∃ x : SigV, RSig x cs w := by
  have hl := h.len struct_Sig
  rw [cells_Sig] at hl
  have h0 := h.field struct_Sig (i := 0) (u := 3) (o := 0) (size := 1) rfl (by kernel_rfl)
  have h1 := h.field struct_Sig (i := 1) (u := 3) (o := 1) (size := 1) rfl (by kernel_rfl)
  match cs, hl with
  | [c0, c1], _ =>
    simp only [List.drop_zero, List.drop_succ_cons, List.take_succ_cons, List.take_zero] at h0 h1
    obtain ⟨x0, e0, b0⟩ := rint_of_rd (w := w) und_I _ h0
    obtain ⟨x1, e1, b1⟩ := rint_of_rd (w := w) und_I _ h1
    simp only [List.cons.injEq, and_true] at e0 e1
    exact ⟨⟨x0, x1⟩, by rw [e0, e1], b0, b1⟩
structure ClaimV where
  office : Int
  hour : Int
  inn : Int
  out : Int
  store : Int
  prev : ByteArray
  sig : SigV
def RClaim (x : ClaimV) (cs : List Value) (_ : World) : Prop := cs = [.int .i64 x.office, .int .i64 x.hour, .int .i64 x.inn, .int .i64 x.out, .int .i64 x.store, .string x.prev, .int .i64 x.sig.e, .int .i64 x.sig.s] ∧ (-9223372036854775808 ≤ x.office ∧ x.office ≤ 9223372036854775807) ∧ (-9223372036854775808 ≤ x.hour ∧ x.hour ≤ 9223372036854775807) ∧ (-9223372036854775808 ≤ x.inn ∧ x.inn ≤ 9223372036854775807) ∧ (-9223372036854775808 ≤ x.out ∧ x.out ≤ 9223372036854775807) ∧ (-9223372036854775808 ≤ x.store ∧ x.store ≤ 9223372036854775807) ∧ x.prev.size ≤ maxLen ∧ (-9223372036854775808 ≤ x.sig.e ∧ x.sig.e ≤ 9223372036854775807) ∧ (-9223372036854775808 ≤ x.sig.s ∧ x.sig.s ≤ 9223372036854775807)
theorem stays_Claim : Stays RClaim := fun _ _ _ _ h _ => h
theorem struct_Claim : (match Tryz.prog.underlying 25 with | some (.struct fs) => some (fs.map fun f => (f.type, f.offset)) | _ => none) = some #[(3, 0), (3, 1), (3, 2), (3, 3), (3, 4), (9, 5), (23, 6)] := by kernel_rfl
theorem cells_Claim : Tryz.prog.cellsOf 25 = 8 := by kernel_rfl
set_option maxRecDepth 100000 in
theorem Claim_of_rd {w : World} (cs : List Value) (h : Rd Tryz.prog w 25 cs) : ∃ x : ClaimV, RClaim x cs w := by
  have hl := h.len struct_Claim
  rw [cells_Claim] at hl
  have h0 := h.field struct_Claim (i := 0) (u := 3) (o := 0) (size := 1) rfl (by kernel_rfl)
  have h1 := h.field struct_Claim (i := 1) (u := 3) (o := 1) (size := 1) rfl (by kernel_rfl)
  have h2 := h.field struct_Claim (i := 2) (u := 3) (o := 2) (size := 1) rfl (by kernel_rfl)
  have h3 := h.field struct_Claim (i := 3) (u := 3) (o := 3) (size := 1) rfl (by kernel_rfl)
  have h4 := h.field struct_Claim (i := 4) (u := 3) (o := 4) (size := 1) rfl (by kernel_rfl)
  have h5 := h.field struct_Claim (i := 5) (u := 9) (o := 5) (size := 1) rfl (by kernel_rfl)
  have h6 := h.field struct_Claim (i := 6) (u := 23) (o := 6) (size := 2) rfl cells_Sig
  match cs, hl with
  | [c0, c1, c2, c3, c4, c5, c6, c7], _ =>
    simp only [List.drop_zero, List.drop_succ_cons, List.take_succ_cons, List.take_zero] at h0 h1 h2 h3 h4 h5 h6
    obtain ⟨x0, e0, b0⟩ := rint_of_rd (w := w) und_I _ h0
    obtain ⟨x1, e1, b1⟩ := rint_of_rd (w := w) und_I _ h1
    obtain ⟨x2, e2, b2⟩ := rint_of_rd (w := w) und_I _ h2
    obtain ⟨x3, e3, b3⟩ := rint_of_rd (w := w) und_I _ h3
    obtain ⟨x4, e4, b4⟩ := rint_of_rd (w := w) und_I _ h4
    obtain ⟨x5, e5, b5⟩ := rstr_of_rd (w := w) und_S _ h5
    obtain ⟨x6, e6, b6_0, b6_1⟩ := Sig_of_rd (w := w) _ h6
    simp only [List.cons.injEq, and_true] at e0 e1 e2 e3 e4 e5 e6
    exact ⟨⟨x0, x1, x2, x3, x4, x5, x6⟩, by rw [e0, e1, e2, e3, e4, e5, e6.1, e6.2], b0, b1, b2, b3, b4, b5, b6_0, b6_1⟩
structure PromiseV where
  office : Int
  since : Int
  till : Int
  litres : Int
  sig : SigV
def RPromise (x : PromiseV) (cs : List Value) (_ : World) : Prop := cs = [.int .i64 x.office, .int .i64 x.since, .int .i64 x.till, .int .i64 x.litres, .int .i64 x.sig.e, .int .i64 x.sig.s] ∧ (-9223372036854775808 ≤ x.office ∧ x.office ≤ 9223372036854775807) ∧ (-9223372036854775808 ≤ x.since ∧ x.since ≤ 9223372036854775807) ∧ (-9223372036854775808 ≤ x.till ∧ x.till ≤ 9223372036854775807) ∧ (-9223372036854775808 ≤ x.litres ∧ x.litres ≤ 9223372036854775807) ∧ (-9223372036854775808 ≤ x.sig.e ∧ x.sig.e ≤ 9223372036854775807) ∧ (-9223372036854775808 ≤ x.sig.s ∧ x.sig.s ≤ 9223372036854775807)
theorem stays_Promise : Stays RPromise := fun _ _ _ _ h _ => h
theorem struct_Promise : (match Tryz.prog.underlying 27 with | some (.struct fs) => some (fs.map fun f => (f.type, f.offset)) | _ => none) = some #[(3, 0), (3, 1), (3, 2), (3, 3), (23, 4)] := by kernel_rfl
theorem cells_Promise : Tryz.prog.cellsOf 27 = 6 := by kernel_rfl
set_option maxRecDepth 100000 in
theorem Promise_of_rd {w : World} (cs : List Value) (h : Rd Tryz.prog w 27 cs) : ∃ x : PromiseV, RPromise x cs w := by
  have hl := h.len struct_Promise
  rw [cells_Promise] at hl
  have h0 := h.field struct_Promise (i := 0) (u := 3) (o := 0) (size := 1) rfl (by kernel_rfl)
  have h1 := h.field struct_Promise (i := 1) (u := 3) (o := 1) (size := 1) rfl (by kernel_rfl)
  have h2 := h.field struct_Promise (i := 2) (u := 3) (o := 2) (size := 1) rfl (by kernel_rfl)
  have h3 := h.field struct_Promise (i := 3) (u := 3) (o := 3) (size := 1) rfl (by kernel_rfl)
  have h4 := h.field struct_Promise (i := 4) (u := 23) (o := 4) (size := 2) rfl cells_Sig
  match cs, hl with
  | [c0, c1, c2, c3, c4, c5], _ =>
    simp only [List.drop_zero, List.drop_succ_cons, List.take_succ_cons, List.take_zero] at h0 h1 h2 h3 h4
    obtain ⟨x0, e0, b0⟩ := rint_of_rd (w := w) und_I _ h0
    obtain ⟨x1, e1, b1⟩ := rint_of_rd (w := w) und_I _ h1
    obtain ⟨x2, e2, b2⟩ := rint_of_rd (w := w) und_I _ h2
    obtain ⟨x3, e3, b3⟩ := rint_of_rd (w := w) und_I _ h3
    obtain ⟨x4, e4, b4_0, b4_1⟩ := Sig_of_rd (w := w) _ h4
    simp only [List.cons.injEq, and_true] at e0 e1 e2 e3 e4
    exact ⟨⟨x0, x1, x2, x3, x4⟩, by rw [e0, e1, e2, e3, e4.1, e4.2], b0, b1, b2, b3, b4_0, b4_1⟩
set_option maxRecDepth 100000 in
theorem arg_Claim {H : Type} {enc : TypeId × Value → H} {W : World} {base : Nat} {v : Value} {d : DataW H} {ps : List MemPlace} (hval : Value.okWide Tryz.prog W .any base 25 v)
    (h : DataW.Trod enc Tryz.prog W 0 (fun _ => true) true 25 v d ps) : ∃ (x : ClaimV) (cs : List Value), v = .agg cs.toArray ∧ RClaim x cs W := by
  have hs := struct_Claim
  split at hs
  · next fs hu =>
    obtain ⟨cs, rfl, _⟩ := Go.WideShapes.okWide_struct hu hval
    obtain ⟨x, hx⟩ := Claim_of_rd _ (Rd.of_trod h)
    exact ⟨x, cs.toList, rfl, hx⟩
  · cases hs
set_option maxRecDepth 100000 in
theorem arg_Promise {H : Type} {enc : TypeId × Value → H} {W : World} {base : Nat} {v : Value} {d : DataW H} {ps : List MemPlace} (hval : Value.okWide Tryz.prog W .any base 27 v)
    (h : DataW.Trod enc Tryz.prog W 0 (fun _ => true) true 27 v d ps) : ∃ (x : PromiseV) (cs : List Value), v = .agg cs.toArray ∧ RPromise x cs W := by
  have hs := struct_Promise
  split at hs
  · next fs hu =>
    obtain ⟨cs, rfl, _⟩ := Go.WideShapes.okWide_struct hu hval
    obtain ⟨x, hx⟩ := Promise_of_rd _ (Rd.of_trod h)
    exact ⟨x, cs.toList, rfl, hx⟩
  · cases hs
set_option maxRecDepth 100000 in
theorem arg_claims {H : Type} {enc : TypeId × Value → H} {W : World} {base : Nat} {v : Value} {d : DataW H} {ps : List MemPlace} (hval : Value.okWide Tryz.prog W .any base 31 v)
    (h : DataW.Trod enc Tryz.prog W 0 (fun _ => true) true 31 v d ps) : ∃ l : List ClaimV, LArg RClaim 8 v l W := by
  obtain ⟨a0, len0, cap0, rfl⟩ := Go.WideShapes.okWide_slice und_L0 hval
  exact LArg.of_rd und_L0 (by kernel_rfl) (by decide) Claim_of_rd (Rd.of_trod h)
def cvOf (x : ClaimV) : CV := ⟨x.office, x.hour, x.inn, x.out, x.store, x.prev, x.sig.e, x.sig.s⟩
def pvOf (x : PromiseV) : PV := ⟨x.office, x.since, x.till, x.litres, x.sig.e, x.sig.s⟩
set_option maxRecDepth 100000 in
theorem claim_cells {x : ClaimV} {cs : List Value} {W : World} (h : RClaim x cs W) : cs = cellsC (cvOf x) := h.1
set_option maxRecDepth 100000 in
theorem claim_ok {x : ClaimV} {cs : List Value} {W : World} (h : RClaim x cs W) : COk (cvOf x) ∧ (cvOf x).prev.size ≤ maxLen := by
  obtain ⟨-, h1, h2, h3, h4, h5, h6, h7, h8⟩ := h
  exact ⟨⟨h1, h2, h3, h4, h5, h7, h8⟩, h6⟩
set_option maxRecDepth 100000 in
theorem promise_cells {x : PromiseV} {cs : List Value} {W : World} (h : RPromise x cs W) : cs = [.int .i64 (pvOf x).office, .int .i64 (pvOf x).since, .int .i64 (pvOf x).till, .int .i64 (pvOf x).litres, .int .i64 (pvOf x).e, .int .i64 (pvOf x).s] := h.1
set_option maxRecDepth 100000 in
theorem promise_ok {x : PromiseV} {cs : List Value} {W : World} (h : RPromise x cs W) : POk (pvOf x) := by
  obtain ⟨-, h1, h2, h3, h4, h5, h6⟩ := h
  exact ⟨h1, h2, h3, h4, h5, h6⟩
set_option maxRecDepth 100000 in
theorem larg_cv {v : Value} {l : List ClaimV} {w : World} (h : LArg RClaim 8 v l w) : LArg RC 8 v (l.map cvOf) w := by
  obtain ⟨a, c, h1, h2, h3, h4⟩ := h
  refine ⟨a, c, by rw [List.length_map]; exact h1, by rw [List.length_map]; exact h2, h3, fun j x hj => ?_⟩
  rw [List.getElem?_map, Option.map_eq_some_iff] at hj
  obtain ⟨y, hy, rfl⟩ := hj
  obtain ⟨b, o, cs, e1, e2, e3, e4, e5⟩ := h4 j y hy
  exact ⟨b, o, cs, e1, e2, e3, e4, claim_cells e5, claim_ok e5⟩
theorem i64_wfC {n : Int} (h : (Lit.int .i64 n).wf = true) : I64 n := by
  simp [Lit.wf, IntKind.min, IntKind.max, IntKind.signed, IntKind.bits] at h
  exact h
set_option maxRecDepth 100000 in
theorem arg_cv {H : Type} {enc : TypeId × Value → H} {W : World} {base : Nat} {v : Value} {d : DataW H} {ps : List MemPlace} (hval : Value.okWide Tryz.prog W .any base 25 v)
    (h : DataW.Trod enc Tryz.prog W 0 (fun _ => true) true 25 v d ps) : ∃ c : CV, v = .agg #[.int .i64 c.office, .int .i64 c.hour, .int .i64 c.inn, .int .i64 c.out, .int .i64 c.store, .string c.prev, .int .i64 c.e, .int .i64 c.s] ∧ COk c ∧ c.prev.size ≤ maxLen := by
  obtain ⟨x, cs, rfl, hx⟩ := arg_Claim hval h
  refine ⟨cvOf x, ?_, ?_, ?_⟩
  · rw [claim_cells hx]; first | done | rfl
  · exact (claim_ok hx).1
  · exact (claim_ok hx).2
set_option maxRecDepth 100000 in
theorem arg_pv {H : Type} {enc : TypeId × Value → H} {W : World} {base : Nat} {v : Value} {d : DataW H} {ps : List MemPlace} (hval : Value.okWide Tryz.prog W .any base 27 v)
    (h : DataW.Trod enc Tryz.prog W 0 (fun _ => true) true 27 v d ps) : ∃ c : PV, v = .agg #[.int .i64 c.office, .int .i64 c.since, .int .i64 c.till, .int .i64 c.litres, .int .i64 c.e, .int .i64 c.s] ∧ POk c := by
  obtain ⟨x, cs, rfl, hx⟩ := arg_Promise hval h
  refine ⟨pvOf x, ?_, ?_⟩
  · rw [promise_cells hx]
  · exact promise_ok hx
end Go.Proofs.YtgjklfddoechpaaGreatDoor
