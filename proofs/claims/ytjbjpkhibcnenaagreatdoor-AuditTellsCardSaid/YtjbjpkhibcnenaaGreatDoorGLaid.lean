/- Texts merged: GArgs COpen GGlob GLaid -/
import Derived.JoinedCond
import Derived.ProofKit
import Derived.OpenShut
import Derived.ChangeSlices
import Derived.SliceStrings
import Derived.Carry
import Derived.Shelf.Vars
import Derived.Test.YtjbjpkhibcnenaaGreatDoorSChal
import Derived.Test.YtjbjpkhibcnenaaGreatDoorRows
import Derived.KernelRfl
import Derived.Test.YtjbjpkhibcnenaaGreatDoorLoad
import Derived.Lib.LaidTab
import Derived.Test.YtjbjpkhibcnenaaGreatDoorComp
import GoSem.PinnedTables
/- Arguments as the statements hand them over, turned into what the walks of package gram use. -/
namespace Go.Proofs.YtjbjpkhibcnenaaGreatDoor
open Go.ChangeShapes Go.WideShapes Go.ChangeAt Go.RowKit Go.WideMaps Go.WideElems
open Go.ChangeMaps (open_string shut_string)
theorem own : ownKnob Tryz.prog.godebug = none := by kernel_rfl
theorem laidOut : laidOutB Tryz.prog = true := by kernel_rfl
theorem mlen_of {W : World} (h : W.ShapedOpen Tryz.prog) : MLen W :=
 Go.Proofs.cell_of_shapedOpen_int (zero := #[.int .i64 0]) (t := 3) h (of_decide_eq_true (by kernel_rfl)) (by kernel_rfl) rfl (by kernel_rfl) (by kernel_rfl) Tryz.underlying3
theorem trod_below {H : Type} {enc : TypeId × Value → H} {W : World} {t : TypeId} {v : Value} {d : DataW H} {ps : List MemPlace} (h : DataW.Trod enc Tryz.prog W 0 (fun _ => true) true t v d ps) : ∀ x ∈ ps, x.block < W.heap.size := fun x hx => by
 obtain ⟨n, h⟩ := h
 exact DataW.trod_lt n _ _ _ h x hx
end Go.Proofs.YtjbjpkhibcnenaaGreatDoor
/- Claims and promises that came in. -/
namespace Go.Proofs.YtjbjpkhibcnenaaGreatDoor
set_option maxRecDepth 100000
open Go.RowKit
theorem und_I : Tryz.prog.underlying 3 = some (.int .i64) := by kernel_rfl
theorem und_S : Tryz.prog.underlying 9 = some .string := by kernel_rfl
theorem und_L0 : Tryz.prog.underlying 33 = some (.slice 63) := by kernel_rfl
structure SigV where
 e : Int
 s : Int
def RSig (x : SigV) (cs : List Value) (_ : World) : Prop := cs = [.int .i64 x.e, .int .i64 x.s] ∧ (-9223372036854775808 ≤ x.e ∧ x.e ≤ 9223372036854775807) ∧ (-9223372036854775808 ≤ x.s ∧ x.s ≤ 9223372036854775807)
theorem struct_Sig : (match Tryz.prog.underlying 36 with | some (.struct fs) => some (fs.map fun f => (f.type, f.offset)) | _ => none) = some #[(3, 0), (3, 1)] := by kernel_rfl
theorem cells_Sig : Tryz.prog.cellsOf 36 = 2 := by kernel_rfl
theorem Sig_of_rd {w : World} (cs : List Value) (h : Rd Tryz.prog w 36 cs) : ∃ x : SigV, RSig x cs w := by
 have hl := h.len struct_Sig
 rw [cells_Sig] at hl
 have h0 := h.field struct_Sig (i := 0) (u := 3) (o := 0) (size := 1) rfl (by kernel_rfl)
 have h1 := h.field struct_Sig (i := 1) (u := 3) (o := 1) (size := 1) rfl (by kernel_rfl)
 match cs, hl with
 | [c0, c1], _ =>
  simp only [List.drop_zero, List.drop_succ_cons, List.take_succ_cons, List.take_zero] at h0 h1
  obtain ⟨x0, e0, b0⟩ := rint_of_rd (w := w) und_I _ h0
  obtain ⟨x1, e1, b1⟩ := rint_of_rd (w := w) und_I _ h1
  simp only [List.cons.injEq, and_true] at e0 e1
  exact ⟨⟨x0, x1⟩, by rw [e0, e1], b0, b1⟩
structure ClaimV where
 office : Int
 hour : Int
 inn : Int
 out : Int
 store : Int
 prev : ByteArray
 sig : SigV
def RClaim (x : ClaimV) (cs : List Value) (_ : World) : Prop := cs = [.int .i64 x.office, .int .i64 x.hour, .int .i64 x.inn, .int .i64 x.out, .int .i64 x.store, .string x.prev, .int .i64 x.sig.e, .int .i64 x.sig.s] ∧ (-9223372036854775808 ≤ x.office ∧ x.office ≤ 9223372036854775807) ∧ (-9223372036854775808 ≤ x.hour ∧ x.hour ≤ 9223372036854775807) ∧ (-9223372036854775808 ≤ x.inn ∧ x.inn ≤ 9223372036854775807) ∧ (-9223372036854775808 ≤ x.out ∧ x.out ≤ 9223372036854775807) ∧ (-9223372036854775808 ≤ x.store ∧ x.store ≤ 9223372036854775807) ∧ x.prev.size ≤ maxLen ∧ (-9223372036854775808 ≤ x.sig.e ∧ x.sig.e ≤ 9223372036854775807) ∧ (-9223372036854775808 ≤ x.sig.s ∧ x.sig.s ≤ 9223372036854775807)
theorem struct_Claim : (match Tryz.prog.underlying 63 with | some (.struct fs) => some (fs.map fun f => (f.type, f.offset)) | _ => none) = some #[(3, 0), (3, 1), (3, 2), (3, 3), (3, 4), (9, 5), (36, 6)] := by kernel_rfl
theorem cells_Claim : Tryz.prog.cellsOf 63 = 8 := by kernel_rfl
theorem Claim_of_rd {w : World} (cs : List Value) (h : Rd Tryz.prog w 63 cs) : ∃ x : ClaimV, RClaim x cs w := by
 have hl := h.len struct_Claim
 rw [cells_Claim] at hl
 have h0 := h.field struct_Claim (i := 0) (u := 3) (o := 0) (size := 1) rfl (by kernel_rfl)
 have h1 := h.field struct_Claim (i := 1) (u := 3) (o := 1) (size := 1) rfl (by kernel_rfl)
 have h2 := h.field struct_Claim (i := 2) (u := 3) (o := 2) (size := 1) rfl (by kernel_rfl)
 have h3 := h.field struct_Claim (i := 3) (u := 3) (o := 3) (size := 1) rfl (by kernel_rfl)
 have h4 := h.field struct_Claim (i := 4) (u := 3) (o := 4) (size := 1) rfl (by kernel_rfl)
 have h5 := h.field struct_Claim (i := 5) (u := 9) (o := 5) (size := 1) rfl (by kernel_rfl)
 have h6 := h.field struct_Claim (i := 6) (u := 36) (o := 6) (size := 2) rfl cells_Sig
 match cs, hl with
 | [c0, c1, c2, c3, c4, c5, c6, c7], _ =>
  simp only [List.drop_zero, List.drop_succ_cons, List.take_succ_cons, List.take_zero] at h0 h1 h2 h3 h4 h5 h6
  obtain ⟨x0, e0, b0⟩ := rint_of_rd (w := w) und_I _ h0
  obtain ⟨x1, e1, b1⟩ := rint_of_rd (w := w) und_I _ h1
  obtain ⟨x2, e2, b2⟩ := rint_of_rd (w := w) und_I _ h2
  obtain ⟨x3, e3, b3⟩ := rint_of_rd (w := w) und_I _ h3
  obtain ⟨x4, e4, b4⟩ := rint_of_rd (w := w) und_I _ h4
  obtain ⟨x5, e5, b5⟩ := rstr_of_rd (w := w) und_S _ h5
  obtain ⟨x6, e6, b6_0, b6_1⟩ := Sig_of_rd (w := w) _ h6
  simp only [List.cons.injEq, and_true] at e0 e1 e2 e3 e4 e5 e6
  exact ⟨⟨x0, x1, x2, x3, x4, x5, x6⟩, by rw [e0, e1, e2, e3, e4, e5, e6.1, e6.2], b0, b1, b2, b3, b4, b5, b6_0, b6_1⟩
structure PromiseV where
 office : Int
 since : Int
 till : Int
 litres : Int
 sig : SigV
def RPromise (x : PromiseV) (cs : List Value) (_ : World) : Prop := cs = [.int .i64 x.office, .int .i64 x.since, .int .i64 x.till, .int .i64 x.litres, .int .i64 x.sig.e, .int .i64 x.sig.s] ∧ (-9223372036854775808 ≤ x.office ∧ x.office ≤ 9223372036854775807) ∧ (-9223372036854775808 ≤ x.since ∧ x.since ≤ 9223372036854775807) ∧ (-9223372036854775808 ≤ x.till ∧ x.till ≤ 9223372036854775807) ∧ (-9223372036854775808 ≤ x.litres ∧ x.litres ≤ 9223372036854775807) ∧ (-9223372036854775808 ≤ x.sig.e ∧ x.sig.e ≤ 9223372036854775807) ∧ (-9223372036854775808 ≤ x.sig.s ∧ x.sig.s ≤ 9223372036854775807)
theorem struct_Promise : (match Tryz.prog.underlying 38 with | some (.struct fs) => some (fs.map fun f => (f.type, f.offset)) | _ => none) = some #[(3, 0), (3, 1), (3, 2), (3, 3), (36, 4)] := by kernel_rfl
theorem cells_Promise : Tryz.prog.cellsOf 38 = 6 := by kernel_rfl
theorem Promise_of_rd {w : World} (cs : List Value) (h : Rd Tryz.prog w 38 cs) : ∃ x : PromiseV, RPromise x cs w := by
 have hl := h.len struct_Promise
 rw [cells_Promise] at hl
 have h0 := h.field struct_Promise (i := 0) (u := 3) (o := 0) (size := 1) rfl (by kernel_rfl)
 have h1 := h.field struct_Promise (i := 1) (u := 3) (o := 1) (size := 1) rfl (by kernel_rfl)
 have h2 := h.field struct_Promise (i := 2) (u := 3) (o := 2) (size := 1) rfl (by kernel_rfl)
 have h3 := h.field struct_Promise (i := 3) (u := 3) (o := 3) (size := 1) rfl (by kernel_rfl)
 have h4 := h.field struct_Promise (i := 4) (u := 36) (o := 4) (size := 2) rfl cells_Sig
 match cs, hl with
 | [c0, c1, c2, c3, c4, c5], _ =>
  simp only [List.drop_zero, List.drop_succ_cons, List.take_succ_cons, List.take_zero] at h0 h1 h2 h3 h4
  obtain ⟨x0, e0, b0⟩ := rint_of_rd (w := w) und_I _ h0
  obtain ⟨x1, e1, b1⟩ := rint_of_rd (w := w) und_I _ h1
  obtain ⟨x2, e2, b2⟩ := rint_of_rd (w := w) und_I _ h2
  obtain ⟨x3, e3, b3⟩ := rint_of_rd (w := w) und_I _ h3
  obtain ⟨x4, e4, b4_0, b4_1⟩ := Sig_of_rd (w := w) _ h4
  simp only [List.cons.injEq, and_true] at e0 e1 e2 e3 e4
  exact ⟨⟨x0, x1, x2, x3, x4⟩, by rw [e0, e1, e2, e3, e4.1, e4.2], b0, b1, b2, b3, b4_0, b4_1⟩
def cvOf (x : ClaimV) : CV := ⟨x.office, x.hour, x.inn, x.out, x.store, x.prev, x.sig.e, x.sig.s⟩
def pvOf (x : PromiseV) : PV := ⟨x.office, x.since, x.till, x.litres, x.sig.e, x.sig.s⟩
theorem claim_cells {x : ClaimV} {cs : List Value} {W : World} (h : RClaim x cs W) : cs = cellsC (cvOf x) := h.1
theorem claim_ok {x : ClaimV} {cs : List Value} {W : World} (h : RClaim x cs W) : COk (cvOf x) ∧ (cvOf x).prev.size ≤ maxLen := by
 obtain ⟨-, h1, h2, h3, h4, h5, h6, h7, h8⟩ := h
 exact ⟨⟨h1, h2, h3, h4, h5, h7, h8⟩, h6⟩
theorem promise_cells {x : PromiseV} {cs : List Value} {W : World} (h : RPromise x cs W) : cs = [.int .i64 (pvOf x).office, .int .i64 (pvOf x).since, .int .i64 (pvOf x).till, .int .i64 (pvOf x).litres, .int .i64 (pvOf x).e, .int .i64 (pvOf x).s] := h.1
theorem promise_ok {x : PromiseV} {cs : List Value} {W : World} (h : RPromise x cs W) : POk (pvOf x) := by
 obtain ⟨-, h1, h2, h3, h4, h5, h6⟩ := h
 exact ⟨h1, h2, h3, h4, h5, h6⟩
end Go.Proofs.YtjbjpkhibcnenaaGreatDoor
/- From the rows' list of package-level variables to the facts on memory that the walks use. -/
namespace Go.Proofs.YtjbjpkhibcnenaaGreatDoor
open Go.RowKit
theorem gStart : Tryz.prog.globalNamed "bourne/digest.start" = some 0 := by kernel_rfl
theorem gStartT : (Tryz.prog.globals[0]?).map (·.type) = some 198 := by kernel_rfl
theorem gOrders : Tryz.prog.globalNamed "bourne/digest.orders" = some 3 := by kernel_rfl
theorem gOrdersT : (Tryz.prog.globals[3]?).map (·.type) = some 205 := by kernel_rfl
theorem undOrd : Tryz.prog.underlying 205 = some (.array 10 204) := by kernel_rfl
theorem undW : Tryz.prog.underlying 148 = some (.int .u32) := by kernel_rfl
theorem undBy : Tryz.prog.underlying 5 = some (.int .u8) := by kernel_rfl
theorem coW : Tryz.prog.cellsOf 148 = 1 := by kernel_rfl
theorem coA8 : Tryz.prog.cellsOf 198 = 8 := by kernel_rfl
theorem coB : Tryz.prog.cellsOf 5 = 1 := by kernel_rfl
theorem coB16 : Tryz.prog.cellsOf 204 = 16 := by kernel_rfl
theorem size2 {W : World} (h : ∃ cs, W.var? Tryz.prog "bourne/digest.orders" = some cs) : 3 + 1 ≤ W.heap.size := by
 obtain ⟨cs, h⟩ := h
 simp only [World.var?, gOrders, Option.bind_some] at h
 rcases Nat.lt_or_ge 3 W.heap.size with hlt | hge
 · omega
 · rw [Array.getElem?_eq_none hge] at h; cases h
theorem glob_of_laid {W : World} {rest : List (String × DataW Unit)} (h : laidMet Tryz.prog (("bourne/digest.start", Rows.laid_bourne_digest_start) :: ("bourne/digest.orders", Rows.laid_bourne_digest_orders) :: rest) W) : Glob W := by
 obtain ⟨ps, ⟨g1, t1, cs1, f1, p1, q1, hg1, ht1, hv1, hd1, ⟨g2, t2, cs2, f2, p2, q2, hg2, ht2, hv2, hd2, _⟩, _⟩, _⟩ := h
 obtain rfl := Option.some.inj (gStart.symm.trans hg1)
 obtain rfl := Option.some.inj (gStartT.symm.trans ht1)
 obtain rfl := Option.some.inj (gOrders.symm.trans hg2)
 obtain rfl := Option.some.inj (gOrdersT.symm.trans ht2)
 have e1 := Lib.cells_of_tab (zs := startL) (k := .u32) undA8 undW coW coA8 hd1
 refine ⟨fun j v hv => ?_, fun r hr j v hv => ?_, size2 ⟨_, hv2⟩⟩
 ·
  have := World.var?_cell gStart hv1 j
  rw [Nat.zero_add, this, ← Array.getElem?_toList, e1]
  exact hv
 ·
  obtain ⟨xs, m, hf, hx, hlen, hxl, hi⟩ := DataW.trod_array undOrd hd2
  have hxs : xs.map (·.1) = ordL.map fun row => Lib.tabData .u8 row := by
   have := congrArg Prod.fst hx
   exact (DataW.agg.inj this).symm
  have hrow : (xs.map (·.1))[r]? = (ordL.map fun row => Lib.tabData .u8 row)[r]? := by rw [hxs]
  obtain ⟨row, hrow1, hrow2⟩ := ordL_row r hr
  have h1 := hi r hr
  rw [coB16] at h1
  cases hxr : xs[r]? with
  | none =>
   have := List.getElem?_eq_none_iff.1 hxr
   omega
  | some y =>
   rw [hxr] at h1
   simp only [List.getElem?_map, hxr, hrow1, Option.map_some, Option.some.injEq] at hrow
   obtain ⟨y1, y2⟩ := y
   simp only at hrow
   subst hrow
   have e2 := Lib.cells_of_tab undB16 undBy coB coB16 h1
   have := World.var?_cell gOrders hv2 (r * 16 + j)
   rw [this]
   have hj : j < 16 := by
    have hj := (List.getElem?_eq_some_iff.1 hv).1
    rw [ordRow_len r hr] at hj
    exact hj
   have h3 : ((cs2.toList.drop (r * 16)).take 16)[j]? = (row.map fun z => Value.int .u8 z)[j]? := by rw [e2]
   rw [List.getElem?_take, if_pos hj, List.getElem?_drop] at h3
   simp only [ordRow, hrow1, Option.getD_some] at hv
   rw [← hv, ← h3, Array.getElem?_toList]
end Go.Proofs.YtjbjpkhibcnenaaGreatDoor
/- A world for the witness: the settled one, with the tables of digest and of unicode/utf8 as their initialisers lay them. -/
namespace Go.Proofs.YtjbjpkhibcnenaaGreatDoor
def acceptZ : List Int := [128, 191, 160, 191, 128, 159, 144, 191, 128, 143, 0, 0, 0, 0, 0, 0, 0, 0, 0, 0, 0, 0, 0, 0, 0, 0, 0, 0, 0, 0, 0, 0]
noncomputable def laidWorld (os : Os) : World :=
 { World.holding Tryz.prog os ⟨#[], #[], []⟩ with heap := ((((World.holding Tryz.prog os ⟨#[], #[], []⟩).heap.modify 6 (fun | .cells _ t frozen => .cells (acceptZ.map (Value.int .u8)).toArray t frozen | o => o)).modify 5 (fun | .cells _ t frozen => .cells (Go.Pinned.utf8FirstZ.map fun z : Nat => Value.int .u8 (z : Int)).toArray t frozen | o => o)).modify 0 (fun | .cells _ t frozen => .cells (u32v startL) t frozen | o => o)).modify 3 (fun | .cells _ t frozen => .cells (ordL.flatten.map (Value.int .u8)).toArray t frozen | o => o) }
end Go.Proofs.YtjbjpkhibcnenaaGreatDoor
