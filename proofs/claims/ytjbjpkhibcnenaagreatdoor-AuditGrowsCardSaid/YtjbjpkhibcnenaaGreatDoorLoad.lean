/- Texts merged: AOpen Load -/
import Derived.KernelRfl
import Derived.Test.YtjbjpkhibcnenaaGreatDoorProg
import Derived.Test.YtjbjpkhibcnenaaGreatDoorALaw
import Derived.Test.YtjbjpkhibcnenaaGreatDoorGArgs
import Derived.Deep.RegionHeldLaw
import Derived.Test.YtjbjpkhibcnenaaGreatDoorWords
import Derived.Test.YtjbjpkhibcnenaaGreatDoorSum
/- Public data, promises, blames and basins that came in. -/
namespace Go.Proofs.YtjbjpkhibcnenaaGreatDoor
open Go.RowKit
theorem und_LP : Tryz.prog.underlying 51 = some (.slice 53) := by kernel_rfl
theorem und_LS : Tryz.prog.underlying 32 = some (.slice 55) := by kernel_rfl
def RSpan (x : SpanV) (cs : List Value) (_ : World) : Prop := cs = [.int .i64 x.lo, .int .i64 x.hi] ∧ (-9223372036854775808 ≤ x.lo ∧ x.lo ≤ 9223372036854775807) ∧ (-9223372036854775808 ≤ x.hi ∧ x.hi ≤ 9223372036854775807)
theorem stays_Span : Stays RSpan := fun _ _ _ _ h _ => h
theorem struct_Span : (match Tryz.prog.underlying 53 with | some (.struct fs) => some (fs.map fun f => (f.type, f.offset)) | _ => none) = some #[(3, 0), (3, 1)] := by kernel_rfl
theorem cells_Span : Tryz.prog.cellsOf 53 = 2 := by kernel_rfl
set_option maxRecDepth 100000 in
theorem Span_of_rd {w : World} (cs : List Value) (h : Rd Tryz.prog w 53 cs) : ∃ x : SpanV, RSpan x cs w := by
  have hl := h.len struct_Span
  rw [cells_Span] at hl
  have h0 := h.field struct_Span (i := 0) (u := 3) (o := 0) (size := 1) rfl (by kernel_rfl)
  have h1 := h.field struct_Span (i := 1) (u := 3) (o := 1) (size := 1) rfl (by kernel_rfl)
  match cs, hl with
  | [c0, c1], _ =>
    simp only [List.drop_zero, List.drop_succ_cons, List.take_succ_cons, List.take_zero] at h0 h1
    obtain ⟨x0, e0, b0⟩ := rint_of_rd (w := w) und_I _ h0
    obtain ⟨x1, e1, b1⟩ := rint_of_rd (w := w) und_I _ h1
    simp only [List.cons.injEq, and_true] at e0 e1
    exact ⟨⟨x0, x1⟩, by rw [e0, e1], b0, b1⟩
def RPublic (x : PublicV) (cs : List Value) (w : World) : Prop := ∃ v0 : Value, cs = [.int .i64 x.hour, v0, .int .i64 x.mouth.lo, .int .i64 x.mouth.hi] ∧ (-9223372036854775808 ≤ x.hour ∧ x.hour ≤ 9223372036854775807) ∧ (-9223372036854775808 ≤ x.mouth.lo ∧ x.mouth.lo ≤ 9223372036854775807) ∧ (-9223372036854775808 ≤ x.mouth.hi ∧ x.mouth.hi ≤ 9223372036854775807) ∧ LArg RSpan 2 v0 x.net w
theorem stays_Public : Stays RPublic := fun _ _ _ _ ⟨v0, h0, b0, b1, b2, l0⟩ hb => ⟨v0, h0, b0, b1, b2, l0.below stays_Span hb⟩
theorem struct_Public : (match Tryz.prog.underlying 55 with | some (.struct fs) => some (fs.map fun f => (f.type, f.offset)) | _ => none) = some #[(3, 0), (51, 1), (53, 2)] := by kernel_rfl
theorem cells_Public : Tryz.prog.cellsOf 55 = 4 := by kernel_rfl
set_option maxRecDepth 100000 in
theorem Public_of_rd {w : World} (cs : List Value) (h : Rd Tryz.prog w 55 cs) : ∃ x : PublicV, RPublic x cs w := by
  have hl := h.len struct_Public
  rw [cells_Public] at hl
  have h0 := h.field struct_Public (i := 0) (u := 3) (o := 0) (size := 1) rfl (by kernel_rfl)
  have h1 := h.field struct_Public (i := 1) (u := 51) (o := 1) (size := 1) rfl (by kernel_rfl)
  have h2 := h.field struct_Public (i := 2) (u := 53) (o := 2) (size := 2) rfl cells_Span
  match cs, hl with
  | [c0, c1, c2, c3], _ =>
    simp only [List.drop_zero, List.drop_succ_cons, List.take_succ_cons, List.take_zero] at h0 h1 h2
    obtain ⟨x0, e0, b0⟩ := rint_of_rd (w := w) und_I _ h0
    obtain ⟨x1, w1, e1, l1⟩ := rlist_of_rd (w := w) (R := RSpan) (size := 2) und_LP (by kernel_rfl) (by decide) Span_of_rd _ h1
    obtain ⟨x2, e2, b2_0, b2_1⟩ := Span_of_rd (w := w) _ h2
    simp only [List.cons.injEq, and_true] at e0 e1 e2
    exact ⟨⟨x0, x1, x2⟩, w1, by rw [e0, e1, e2.1, e2.2], b0, b2_0, b2_1, l1⟩
set_option maxRecDepth 100000 in
theorem arg_pubs {H : Type} {enc : TypeId × Value → H} {W : World} {base : Nat} {v : Value} {d : DataW H} {ps : List MemPlace} (hval : Value.okWide Tryz.prog W .any base 32 v)
    (h : DataW.Trod enc Tryz.prog W 0 (fun _ => true) true 32 v d ps) : ∃ l : List PublicV, LArg RPublic 4 v l W := by
  obtain ⟨a0, len0, cap0, rfl⟩ := Go.WideShapes.okWide_slice und_LS hval
  exact LArg.of_rd und_LS (by kernel_rfl) (by decide) Public_of_rd (Rd.of_trod h)

/-- promises' cells -/
def cellsP (p : PV) : List Value := [.int .i64 p.office, .int .i64 p.since, .int .i64 p.till, .int .i64 p.litres, .int .i64 p.e, .int .i64 p.s]
def RP (p : PV) (cs : List Value) (_ : World) : Prop := cs = cellsP p ∧ POk p
theorem stays_RP : Stays RP := fun _ _ _ _ h _ => h
set_option maxRecDepth 100000 in
theorem RC_of_rd {w : World} (cs : List Value) (h : Rd Tryz.prog w 63 cs) : ∃ c : CV, RC c cs w := by
  obtain ⟨x, hx⟩ := Claim_of_rd cs h
  exact ⟨cvOf x, claim_cells hx, claim_ok hx⟩
set_option maxRecDepth 100000 in
theorem arg_clms {H : Type} {enc : TypeId × Value → H} {W : World} {base : Nat} {v : Value} {d : DataW H} {ps : List MemPlace} (hval : Value.okWide Tryz.prog W .any base 33 v)
    (h : DataW.Trod enc Tryz.prog W 0 (fun _ => true) true 33 v d ps) : ∃ l : List CV, LArg RC 8 v l W := by
  obtain ⟨a0, len0, cap0, rfl⟩ := Go.WideShapes.okWide_slice und_L0 hval
  exact LArg.of_rd und_L0 (by kernel_rfl) (by decide) RC_of_rd (Rd.of_trod h)
/-- a blame's cells: v holds its claims -/
def cellsB (x : BlV) (v : Value) : List Value := [.int .i64 x.office, .int .i64 x.why, v] ++ cellsP x.prom
def BOk (x : BlV) : Prop := I64 x.office ∧ I64 x.why ∧ POk x.prom
def RBl (x : BlV) (cs : List Value) (w : World) : Prop := ∃ v, cs = cellsB x v ∧ BOk x ∧ LArg RC 8 v x.claims w
theorem stays_RBl : Stays RBl := fun _ _ _ _ ⟨v, h1, h2, h3⟩ hb => ⟨v, h1, h2, h3.below stays_RC hb⟩
/-- what the audit does not read of a basin -/
structure BsX where
  nm : ByteArray
  k : Int
  a1 : Option Addr
  n1 : Nat
  c1 : Nat
  a3 : Option Addr
  n3 : Nat
  c3 : Nat
  a4 : Option Addr
  n4 : Nat
  c4 : Nat
  a5 : Option Addr
  n5 : Nat
  c5 : Nat
  a6 : Option Addr
  n6 : Nat
  c6 : Nat
  a7 : Option Addr
  n7 : Nat
  c7 : Nat
  a8 : Option Addr
  n8 : Nat
  c8 : Nat
/-- a basin's cells: what the audit does not read, the room and the error -/
def cellsBs (x : BsX) (vr : Value) (err : Int) : List Value := [.string x.nm, .slice x.a1 x.n1 x.c1, .int .i64 x.k, .slice x.a3 x.n3 x.c3, .slice x.a4 x.n4 x.c4, .slice x.a5 x.n5 x.c5, .slice x.a6 x.n6 x.c6, .slice x.a7 x.n7 x.c7, .slice x.a8 x.n8 x.c8, vr, .int .i64 err]
theorem slice_of_rd {P : Program} {w : World} {t e : TypeId} {v : Value} (hu : P.underlying t = some (.slice e)) (h : Rd P w t [v]) : ∃ a n c, v = .slice a n c := by
  rcases h.slice hu with h1 | ⟨a, len, cap, h1, _⟩
  · exact ⟨none, 0, 0, (List.cons.inj h1).1⟩
  · exact ⟨some a, len, cap, (List.cons.inj h1).1⟩
theorem struct_Bs : (match Tryz.prog.underlying 31 with | some (.struct fs) => some (fs.map fun f => (f.type, f.offset)) | _ => none) = some #[(9, 0), (22, 1), (3, 2), (23, 3), (24, 4), (25, 5), (26, 6), (27, 7), (28, 8), (29, 9), (3, 10)] := by kernel_rfl
theorem cells_Bs : Tryz.prog.cellsOf 31 = 11 := by kernel_rfl
theorem und_LI : Tryz.prog.underlying 29 = some (.slice 3) := by kernel_rfl
set_option maxRecDepth 100000 in
theorem Bs_of_rd {W : World} (cs : List Value) (h : Rd Tryz.prog W 31 cs) : ∃ (x : BsX) (ar : Option Addr) (nr cr : Nat) (err : Int) (room : List Int), cs = cellsBs x (.slice ar nr cr) err ∧ I64 err ∧ LArg RInt 1 (.slice ar nr cr) room W := by
  have hl := h.len struct_Bs
  rw [cells_Bs] at hl
  have h0 := h.field struct_Bs (i := 0) (u := 9) (o := 0) (size := 1) rfl (by kernel_rfl)
  have h1 := h.field struct_Bs (i := 1) (u := 22) (o := 1) (size := 1) rfl (by kernel_rfl)
  have h2 := h.field struct_Bs (i := 2) (u := 3) (o := 2) (size := 1) rfl (by kernel_rfl)
  have h3 := h.field struct_Bs (i := 3) (u := 23) (o := 3) (size := 1) rfl (by kernel_rfl)
  have h4 := h.field struct_Bs (i := 4) (u := 24) (o := 4) (size := 1) rfl (by kernel_rfl)
  have h5 := h.field struct_Bs (i := 5) (u := 25) (o := 5) (size := 1) rfl (by kernel_rfl)
  have h6 := h.field struct_Bs (i := 6) (u := 26) (o := 6) (size := 1) rfl (by kernel_rfl)
  have h7 := h.field struct_Bs (i := 7) (u := 27) (o := 7) (size := 1) rfl (by kernel_rfl)
  have h8 := h.field struct_Bs (i := 8) (u := 28) (o := 8) (size := 1) rfl (by kernel_rfl)
  have h9 := h.field struct_Bs (i := 9) (u := 29) (o := 9) (size := 1) rfl (by kernel_rfl)
  have h10 := h.field struct_Bs (i := 10) (u := 3) (o := 10) (size := 1) rfl (by kernel_rfl)
  match cs, hl with
  | [v0, v1, v2, v3, v4, v5, v6, v7, v8, v9, v10], _ =>
    simp only [List.drop_zero, List.drop_succ_cons, List.take_succ_cons, List.take_zero] at h0 h1 h2 h3 h4 h5 h6 h7 h8 h9 h10
    obtain ⟨x0, e0, b0⟩ := rstr_of_rd (w := W) und_S _ h0
    obtain ⟨x2, e2, b2⟩ := rint_of_rd (w := W) und_I _ h2
    obtain ⟨a1, n1, c1, e1⟩ := slice_of_rd (e := 9) (by kernel_rfl) h1
    obtain ⟨a3, n3, c3, e3⟩ := slice_of_rd (e := 235) (by kernel_rfl) h3
    obtain ⟨a4, n4, c4, e4⟩ := slice_of_rd (e := 239) (by kernel_rfl) h4
    obtain ⟨a5, n5, c5, e5⟩ := slice_of_rd (e := 241) (by kernel_rfl) h5
    obtain ⟨a6, n6, c6, e6⟩ := slice_of_rd (e := 243) (by kernel_rfl) h6
    obtain ⟨a7, n7, c7, e7⟩ := slice_of_rd (e := 245) (by kernel_rfl) h7
    obtain ⟨a8, n8, c8, e8⟩ := slice_of_rd (e := 247) (by kernel_rfl) h8
    obtain ⟨ar, nr, cr, e9⟩ := slice_of_rd und_LI h9
    obtain ⟨x10, e10, b10⟩ := rint_of_rd (w := W) und_I _ h10
    rw [e9] at h9
    obtain ⟨y, v, e9', l9⟩ := rlist_of_rd (w := W) (R := RInt) (size := 1) und_LI (by kernel_rfl) (by decide) (rint_of_rd und_I) _ h9
    simp only [List.cons.injEq, and_true] at e0 e2 e9' e10
    subst e9'
    refine ⟨⟨x0, x2, a1, n1, c1, a3, n3, c3, a4, n4, c4, a5, n5, c5, a6, n6, c6, a7, n7, c7, a8, n8, c8⟩, ar, nr, cr, x10, y, ?_, b10, l9⟩
    rw [e0, e1, e2, e3, e4, e5, e6, e7, e8, e9, e10]
    rfl
set_option maxRecDepth 100000 in
theorem arg_basin {H : Type} {enc : TypeId × Value → H} {W : World} {base : Nat} {v : Value} {d : DataW H} {ps : List MemPlace} (hval : Value.okWide Tryz.prog W .any base 31 v)
    (h : DataW.Trod enc Tryz.prog W 0 (fun _ => true) true 31 v d ps) : ∃ (x : BsX) (ar : Option Addr) (nr cr : Nat) (err : Int) (room : List Int), v = .agg (cellsBs x (.slice ar nr cr) err).toArray ∧ I64 err ∧ LArg RInt 1 (.slice ar nr cr) room W := by
  have hs := struct_Bs
  split at hs
  · next fs hu =>
    obtain ⟨cs, rfl, _⟩ := Go.WideShapes.okWide_struct hu hval
    obtain ⟨x, ar, nr, cr, err, room, h1, h2, h3⟩ := Bs_of_rd _ (Rd.of_trod h)
    exact ⟨x, ar, nr, cr, err, room, by rw [← h1]; rfl, h2, h3⟩
  · cases hs
end Go.Proofs.YtjbjpkhibcnenaaGreatDoor
/- Loads of structs, whole or from the middle of a block (walks and drawn regions). -/
namespace Go.Proofs.YtjbjpkhibcnenaaGreatDoor
open Go.RowKit
theorem rowN {w : World} {b : Nat} {cs : Array Value} {t : TypeId} (h : w.heap[b]? = some (.cells cs t (0, 0))) : ∀ j (v : Value), cs[j]? = some v → w.cell? ⟨b, j, none⟩ = some v := fun j v hj => by
  rw [cell_of_row _ _ _ _ _ _ h]
  exact hj
theorem run_loadVar_range {P : Program} (w : World) (b o : Nat) (ty : TypeId) (cs : List Value) (d : TypeDesc) (h : w.rangeAt b o cs)
    (hu : P.underlying ty = some d) (hd : (match d with | .struct _ | .array _ _ => true | _ => false) = true) (hi : (P.info? ty).map (·.size) = some cs.length) :
    (loadVar ty ⟨b, o, none⟩).run P w = .ok (.agg cs.toArray) w := by
  have hl : (loadCells ⟨b, o, none⟩ cs.length).run P w = .ok cs.toArray w :=
    run_loadCells_list (P := P) w ⟨b, o, none⟩ cs (fun j v hv => by
      rw [Addr.add_mid]
      exact h j v hv)
  cases hq : P.info? ty with
  | none => simp [hq] at hi
  | some i =>
    have hs : i.size = cs.length := by simpa [hq] using hi
    have hagg : (isAgg ty).run P w = .ok true w := by
      unfold isAgg
      rw [Sem.run_bind, run_underlying hu w]
      cases d <;> simp_all
    simp [loadVar, Sem.run_bind, hagg, sizeOf, typeInfo, hq, hs, hl]
theorem wpList_load_range {P : Program} {Q : Exit → Act → World → Prop} {a : Act} {w : World} {ops : Array Oper} {rest : List Oper} {o : Oper} (hgd : Region.wanted o (yielded ops a.tmps) = true) (ty : TypeId) (x : Operand) (ho : o.op = .load ty x)
    (b k : Nat) (hx : a.eval x = .pointer (some ⟨b, k, none⟩)) (cs : List Value) (d : TypeDesc) (h : w.rangeAt b k cs)
    (hu : P.underlying ty = some d) (hd : (match d with | .struct _ | .array _ _ => true | _ => false) = true) (hi : (P.info? ty).map (·.size) = some cs.length)
    (hK : wpList P ops Q rest (a.put o.dst (.agg cs.toArray)) w) : wpList P ops Q (o :: rest) a w :=
  wpList_step fun K hk => by
    rw [if_pos hgd]
    unfold Oper.wp execOp
    simp only [ho, hx, Instr.loadAt, Instr.sureAddr, Sem.run_bind, Sem.run_pure, Result.andThen_ok, run_loadVar_range w b k ty cs d h hu hd hi]
    exact hk _ _ hK
/-- a load of a whole struct behind '&&' -/
theorem wpList_load_rowW {P : Program} {Q : Exit → Act → World → Prop} {a : Act} {w : World} {ops : Array Oper} {rest : List Oper} {o : Oper} (hgd : Region.wanted o (yielded ops a.tmps) = true) (ty : TypeId) (x : Operand) (ho : o.op = .load ty x)
    (g : Nat) (hx : a.eval x = .pointer (some ⟨g, 0, none⟩)) (t : TypeId) (cs : Array Value) (fr : Nat × Nat) (d : TypeDesc) (hg : w.heap[g]? = some (.cells cs t fr))
    (hu : P.underlying ty = some d) (hd : (match d with | .struct _ | .array _ _ => true | _ => false) = true) (hi : (P.info? ty).map (·.size) = some cs.size)
    (h : wpList P ops Q rest (a.put o.dst (.agg cs)) w) : wpList P ops Q (o :: rest) a w :=
  wpList_step fun _ hK => by
    rw [if_pos hgd]
    exact wp_load_row ty x ho g hx t cs fr d hg hu hd hi (hK _ _ h)
theorem exec_load_row {P : Program} {o : Oper} {ev : Operand → Value} {w : World} (ty : TypeId) (x : Operand) (ho : o.op = .load ty x)
    (g : Nat) (hx : ev x = .pointer (some ⟨g, 0, none⟩)) (t : TypeId) (cs : Array Value) (fr : Nat × Nat) (d : TypeDesc) (hg : w.heap[g]? = some (.cells cs t fr))
    (hu : P.underlying ty = some d) (hd : (match d with | .struct _ | .array _ _ => true | _ => false) = true) (hi : (P.info? ty).map (·.size) = some cs.size) :
    (execOp ev o).run P w = .ok (.value (.agg cs)) w := by
  unfold execOp
  simp only [ho, hx, Instr.loadAt, Instr.sureAddr, Sem.run_bind, Sem.run_pure, Result.andThen_ok, run_loadVar_row w g t ty cs fr d hg hu hd hi]
theorem range2 {w : World} {b k : Nat} {x y : Value} (h1 : w.cell? ⟨b, k, none⟩ = some x) (h2 : w.cell? ⟨b, k + 1, none⟩ = some y) : w.rangeAt b k [x, y] := fun j v hv => by
  rcases j with _ | _ | j
  · cases hv; exact h1
  · cases hv; exact h2
  · exact absurd hv (by simp)
theorem exec_load_range {P : Program} {o : Oper} {ev : Operand → Value} {w : World} (ty : TypeId) (x : Operand) (ho : o.op = .load ty x)
    (b k : Nat) (hx : ev x = .pointer (some ⟨b, k, none⟩)) (cs : List Value) (d : TypeDesc) (h : w.rangeAt b k cs)
    (hu : P.underlying ty = some d) (hd : (match d with | .struct _ | .array _ _ => true | _ => false) = true) (hi : (P.info? ty).map (·.size) = some cs.length) :
    (execOp ev o).run P w = .ok (.value (.agg cs.toArray)) w := by
  unfold execOp
  simp only [ho, hx, Instr.loadAt, Instr.sureAddr, Sem.run_bind, Sem.run_pure, Result.andThen_ok, run_loadVar_range w b k ty cs d h hu hd hi]
end Go.Proofs.YtjbjpkhibcnenaaGreatDoor
