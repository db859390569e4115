/- Equality of gates and of spans, few and valid, package span. -/
import Derived.Test.YtkoobkcmmfdlhaaUBounds
import Derived.Laws.StructEq
namespace Go.Proofs.Ytkoobkcmmfdlhaa
open Go.RowKit
theorem ite_okU (p : Prop) [Decidable p] (X : Result Bool) (q : Bool) (w : World) (h : X = .ok q w) : (if p then X else .ok false w) = .ok (decide p && q) w := by
  by_cases hp : p
  · rw [if_pos hp, h, decide_eq_true hp]; rfl
  · rw [if_neg hp, decide_eq_false hp]; rfl
theorem ite_lastU (p : Prop) [Decidable p] (w : World) : (if p then (.ok true w : Result Bool) else .ok false w) = .ok (decide p) w := by
  by_cases hp : p
  · rw [if_pos hp, decide_eq_true hp]
  · rw [if_neg hp, decide_eq_false hp]
set_option maxHeartbeats 1000000 in
theorem eqS (a b c d : Int) (w : World) : (Op.equalIn 10000 50 (.agg #[.int .i64 a, .int .i64 b]) (.agg #[.int .i64 c, .int .i64 d])).run Try.prog w = .ok (decide (a = c) && decide (b = d)) w := by
  have u3 := Try.underlying3
  have ia3 := Try.isAgg3
  have z3 := Try.sizeOf3
  have hS : Try.prog.underlying 50 = some (.struct (Try.prog.fieldsOf 50)) := by kernel_rfl
  have hp : Try.prog.stoodInHeld 50 = false := by kernel_rfl
  rw [show (10000 : Nat) = 9999 + 1 from rfl, run_equalIn_agg w 9999 50 _ _ hS hp]
  simp only [Program.fieldsOf, Try.underlying50]
  go_simp
  exact ite_okU _ _ _ _ (ite_lastU _ _)
set_option maxHeartbeats 1000000 in
theorem eqGt (a b c d : Int) (s o s' o' : Bool) (w : World) : (Op.equalIn 10000 28 (.agg #[.int .i64 a, .int .i64 b, .bool s, .bool o]) (.agg #[.int .i64 c, .int .i64 d, .bool s', .bool o'])).run Try.prog w = .ok (decide (a = c) && (decide (b = d) && (decide (s = s') && decide (o = o')))) w := by
  have u3 := Try.underlying3
  have ia3 := Try.isAgg3
  have z3 := Try.sizeOf3
  have u4 := Try.underlying4
  have ia4 := Try.isAgg4
  have z4 := Try.sizeOf4
  have hS : Try.prog.underlying 28 = some (.struct (Try.prog.fieldsOf 28)) := by kernel_rfl
  have hp : Try.prog.stoodInHeld 28 = false := by kernel_rfl
  rw [show (10000 : Nat) = 9999 + 1 from rfl, run_equalIn_agg w 9999 28 _ _ hS hp]
  simp only [Program.fieldsOf, Try.underlying28]
  go_simp
  exact ite_okU _ _ _ _ (ite_okU _ _ _ _ (ite_okU _ _ _ _ (ite_lastU _ _)))
/-- a load of a whole struct behind '&&' -/
theorem wpList_load_rowW {P : Program} {Q : Exit → Act → World → Prop} {a : Act} {w : World} {ops : Array Oper} {rest : List Oper} {o : Oper} (hgd : Region.wanted o (yielded ops a.tmps) = true) (ty : TypeId) (x : Operand) (ho : o.op = .load ty x)
    (g : Nat) (hx : a.eval x = .pointer (some ⟨g, 0, none⟩)) (t : TypeId) (cs : Array Value) (fr : Nat × Nat) (d : TypeDesc) (hg : w.heap[g]? = some (.cells cs t fr))
    (hu : P.underlying ty = some d) (hd : (match d with | .struct _ | .array _ _ => true | _ => false) = true) (hi : (P.info? ty).map (·.size) = some cs.size)
    (h : wpList P ops Q rest (a.put o.dst (.agg cs)) w) : wpList P ops Q (o :: rest) a w :=
  wpList_step fun _ hK => by
    rw [if_pos hgd]
    exact wp_load_row ty x ho g hx t cs fr d hg hu hd hi (hK _ _ h)
theorem field_tgt (a b : Int) (s o : Bool) (w : World) : (Instr.field 28 (.agg #[.int .i64 a, .int .i64 b, .bool s, .bool o]) 1).run Try.prog w = .ok (.int .i64 b) w := by kernel_rfl
theorem field_stk (a b : Int) (s o : Bool) (w : World) : (Instr.field 28 (.agg #[.int .i64 a, .int .i64 b, .bool s, .bool o]) 2).run Try.prog w = .ok (.bool s) w := by kernel_rfl
theorem field_kpos (a b c d e : Int) (w : World) : (Instr.field 52 (.agg #[.int .i64 a, .int .i64 b, .int .i64 c, .int .i64 d, .int .i64 e]) 0).run Try.prog w = .ok (.agg #[.int .i64 a, .int .i64 b]) w := by kernel_rfl
/-- few -/
def fewB (l : LinkV) : Bool := decide (l.rate.length ≤ 40) && decide (l.band.lo.length ≤ 40) && decide (l.band.hi.length ≤ 40)
set_option maxRecDepth 100000 in
set_option maxHeartbeats 1000000 in
theorem few_any (l : LinkV) (v1 v2 v3 : Value) (w : World) (h1 : LArg RPoint 2 v1 l.rate w) (h2 : LArg RPoint 2 v2 l.band.lo w) (h3 : LArg RPoint 2 v3 l.band.hi w) : Calls Try.prog 9 #[.agg #[.string l.name, .int .i64 l.kind, .int .i64 l.src, .int .i64 l.dst, v1, v2, v3, .int .i64 l.positions, .int .i64 l.speed, .int .i64 l.leak, .int .i64 l.crest, .int .i64 l.num, .int .i64 l.den, .int .i64 l.prime, .int .i64 l.brk, .int .i64 l.backNum, .int .i64 l.backDen, .int .i64 l.delay]] w (RetB (fewB l) w) := by
  obtain ⟨a1, c1, rfl, -, -⟩ := h1.slice
  obtain ⟨a2, c2, rfl, -, -⟩ := h2.slice
  obtain ⟨a3, c3, rfl, -, -⟩ := h3.slice
  clear h1 h2 h3
  by_cases k1 : l.rate.length ≤ 40
  · by_cases k2 : l.band.lo.length ≤ 40
    · by_cases k3 : l.band.hi.length ≤ 40
      · have HE : Hid (fewB l = true) := Lib.hid (by unfold fewB; rw [decide_eq_true k1, decide_eq_true k2, decide_eq_true k3]; rfl)
        go_enter Try.func9, Try.ntmps9
        go_wp2_with fail
        go_ret
        refine retB_mk (HE.out.trans (decide_eq_true (by omega)).symm) ?_
        (repeat (first | with_reducible exact Below.refl _ _ | with_reducible refine Below.setCell ?_ (by first | exact Nat.le_refl _ | (simp; done) | (simp; omega)) _ | with_reducible refine Below.alloc ?_ (by first | exact Nat.le_refl _ | (simp; done) | (simp; omega)) _ | with_reducible refine below_drewN ?_))
      · have HE : Hid (fewB l = false) := Lib.hid (by unfold fewB; rw [decide_eq_false k3, Bool.and_false])
        go_enter Try.func9, Try.ntmps9
        go_wp2_with fail
        go_ret
        refine retB_mk (HE.out.trans (decide_eq_false (by omega)).symm) ?_
        (repeat (first | with_reducible exact Below.refl _ _ | with_reducible refine Below.setCell ?_ (by first | exact Nat.le_refl _ | (simp; done) | (simp; omega)) _ | with_reducible refine Below.alloc ?_ (by first | exact Nat.le_refl _ | (simp; done) | (simp; omega)) _ | with_reducible refine below_drewN ?_))
    · have HE : Hid (fewB l = false) := Lib.hid (by unfold fewB; rw [decide_eq_false k2, Bool.and_false]; rfl)
      go_enter Try.func9, Try.ntmps9
      go_wp2_with fail
      go_ret
      refine retB_mk HE.out ?_
      (repeat (first | with_reducible exact Below.refl _ _ | with_reducible refine Below.setCell ?_ (by first | exact Nat.le_refl _ | (simp; done) | (simp; omega)) _ | with_reducible refine Below.alloc ?_ (by first | exact Nat.le_refl _ | (simp; done) | (simp; omega)) _ | with_reducible refine below_drewN ?_))
  · have HE : Hid (fewB l = false) := Lib.hid (by unfold fewB; rw [decide_eq_false k1]; rfl)
    go_enter Try.func9, Try.ntmps9
    go_wp2_with fail
    go_ret
    refine retB_mk HE.out ?_
    (repeat (first | with_reducible exact Below.refl _ _ | with_reducible refine Below.setCell ?_ (by first | exact Nat.le_refl _ | (simp; done) | (simp; omega)) _ | with_reducible refine Below.alloc ?_ (by first | exact Nat.le_refl _ | (simp; done) | (simp; omega)) _ | with_reducible refine below_drewN ?_))
/-- valid -/
def ValidG (l : LinkV) (g : GateV) : Prop := 0 ≤ g.pos ∧ g.pos ≤ l.positions ∧ 0 ≤ g.target ∧ g.target ≤ l.positions
instance (l : LinkV) (g : GateV) : Decidable (ValidG l g) := by unfold ValidG; infer_instance
set_option maxRecDepth 100000 in
set_option maxHeartbeats 1000000 in
theorem valid_any (l : LinkV) (v1 v2 v3 : Value) (g : GateV) (w : World) : Calls Try.prog 8 #[.agg #[.string l.name, .int .i64 l.kind, .int .i64 l.src, .int .i64 l.dst, v1, v2, v3, .int .i64 l.positions, .int .i64 l.speed, .int .i64 l.leak, .int .i64 l.crest, .int .i64 l.num, .int .i64 l.den, .int .i64 l.prime, .int .i64 l.brk, .int .i64 l.backNum, .int .i64 l.backDen, .int .i64 l.delay], .agg #[.int .i64 g.pos, .int .i64 g.target, .bool g.stuck, .bool g.opened]] w (RetB (decide (ValidG l g)) w) := by
  by_cases k1 : 0 ≤ g.pos
  · by_cases k2 : g.pos ≤ l.positions
    · by_cases k3 : 0 ≤ g.target
      · by_cases k4 : g.target ≤ l.positions
        · have HE : Hid (decide (ValidG l g) = true) := Lib.hid (decide_eq_true ⟨k1, k2, k3, k4⟩)
          go_enter Try.func8, Try.ntmps8
          go_wp2_with fail
          go_ret
          refine retB_mk HE.out ?_
          (repeat (first | with_reducible exact Below.refl _ _ | with_reducible refine Below.setCell ?_ (by first | exact Nat.le_refl _ | (simp; done) | (simp; omega)) _ | with_reducible refine Below.alloc ?_ (by first | exact Nat.le_refl _ | (simp; done) | (simp; omega)) _ | with_reducible refine below_drewN ?_))
        · have HE : Hid (decide (ValidG l g) = false) := Lib.hid (decide_eq_false fun h => k4 h.2.2.2)
          go_enter Try.func8, Try.ntmps8
          go_wp2_with fail
          go_ret
          refine retB_mk HE.out ?_
          (repeat (first | with_reducible exact Below.refl _ _ | with_reducible refine Below.setCell ?_ (by first | exact Nat.le_refl _ | (simp; done) | (simp; omega)) _ | with_reducible refine Below.alloc ?_ (by first | exact Nat.le_refl _ | (simp; done) | (simp; omega)) _ | with_reducible refine below_drewN ?_))
      · have HE : Hid (decide (ValidG l g) = false) := Lib.hid (decide_eq_false fun h => k3 h.2.2.1)
        go_enter Try.func8, Try.ntmps8
        go_wp2_with fail
        go_ret
        refine retB_mk HE.out ?_
        (repeat (first | with_reducible exact Below.refl _ _ | with_reducible refine Below.setCell ?_ (by first | exact Nat.le_refl _ | (simp; done) | (simp; omega)) _ | with_reducible refine Below.alloc ?_ (by first | exact Nat.le_refl _ | (simp; done) | (simp; omega)) _ | with_reducible refine below_drewN ?_))
    · have HE : Hid (decide (ValidG l g) = false) := Lib.hid (decide_eq_false fun h => k2 h.2.1)
      go_enter Try.func8, Try.ntmps8
      go_wp2_with fail
      go_ret
      refine retB_mk HE.out ?_
      (repeat (first | with_reducible exact Below.refl _ _ | with_reducible refine Below.setCell ?_ (by first | exact Nat.le_refl _ | (simp; done) | (simp; omega)) _ | with_reducible refine Below.alloc ?_ (by first | exact Nat.le_refl _ | (simp; done) | (simp; omega)) _ | with_reducible refine below_drewN ?_))
  · have HE : Hid (decide (ValidG l g) = false) := Lib.hid (decide_eq_false fun h => k1 h.1)
    go_enter Try.func8, Try.ntmps8
    go_wp2_with fail
    go_ret
    refine retB_mk HE.out ?_
    (repeat (first | with_reducible exact Below.refl _ _ | with_reducible refine Below.setCell ?_ (by first | exact Nat.le_refl _ | (simp; done) | (simp; omega)) _ | with_reducible refine Below.alloc ?_ (by first | exact Nat.le_refl _ | (simp; done) | (simp; omega)) _ | with_reducible refine below_drewN ?_))
end Go.Proofs.Ytkoobkcmmfdlhaa
