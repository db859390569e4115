/- gate.Fault, Aim and Move. -/
import Derived.Test.YtkoobkcmmfdlhaaUScale
import Derived.Test.YtkoobkcmmfdlhaaBase
import Derived.BigQuiet
import Derived.Deep.QuietTactic
namespace Go.Proofs.Ytkoobkcmmfdlhaa
open Go.RowKit
theorem clamp_q (n lo hi : Int) (w : World) : Calls Try.prog 11 #[.int .i64 n, .int .i64 lo, .int .i64 hi] w fun e w' => e = .returned (.int .i64 (clampN n lo hi)) ∧ w' = w := (clamp_any n lo hi w).mono fun _ _ ⟨a, b⟩ => ⟨a, b.symm⟩
theorem sub_q (a b : Int) (w : World) (ha : I64 a) (hb : I64 b) : Calls Try.prog 23 #[.int .i64 a, .int .i64 b] w fun e w' => e = .returned (.int .i64 (subS a b)) ∧ w' = w := (sub_any a b w ha hb).mono fun _ _ ⟨a, b⟩ => ⟨a, b.symm⟩
theorem add_q (a b : Int) (w : World) (ha : I64 a) (hb : I64 b) : Calls Try.prog 24 #[.int .i64 a, .int .i64 b] w fun e w' => e = .returned (.int .i64 (addS a b)) ∧ w' = w := (add_any a b w ha hb).mono fun _ _ ⟨a, b⟩ => ⟨a, b.symm⟩
theorem clamp_bd {n lo hi : Int} (h1 : I64 n) (h2 : I64 lo) (h3 : I64 hi) : I64 (clampN n lo hi) := by
  unfold clampN
  split
  · exact h2
  · split
    · exact h3
    · exact h1
/-- the cells of a link, of a gate -/
def linkC (l : LinkV) (v1 v2 v3 : Value) : Array Value := #[.string l.name, .int .i64 l.kind, .int .i64 l.src, .int .i64 l.dst, v1, v2, v3, .int .i64 l.positions, .int .i64 l.speed, .int .i64 l.leak, .int .i64 l.crest, .int .i64 l.num, .int .i64 l.den, .int .i64 l.prime, .int .i64 l.brk, .int .i64 l.backNum, .int .i64 l.backDen, .int .i64 l.delay]
def gateC (g : GateV) : Array Value := #[.int .i64 g.pos, .int .i64 g.target, .bool g.stuck, .bool g.opened]
def gateA (g : GateV) : Value := .agg (gateC g)
def RetG (g : GateV) (w : World) (e : Ending) (w' : World) : Prop := e = .returned (.agg #[.int .i64 g.pos, .int .i64 g.target, .bool g.stuck, .bool g.opened]) ∧ Below w.heap.size w w'
theorem retG_mk {g : GateV} {w w' : World} {p t : Int} {s o : Bool} (h : g = ⟨p, t, s, o⟩) (hb : Below w.heap.size w w') : RetG g w (.returned (.agg #[.int .i64 p, .int .i64 t, .bool s, .bool o])) w' := by subst h; exact ⟨rfl, hb⟩
set_option maxRecDepth 100000 in
set_option maxHeartbeats 2000000 in
theorem move_any (l : LinkV) (v1 v2 v3 : Value) (g : GateV) (w : World) (h1 : I64 l.speed) (h2 : I64 g.pos) (h3 : I64 g.target) :
    Calls Try.prog 13 #[.agg #[.string l.name, .int .i64 l.kind, .int .i64 l.src, .int .i64 l.dst, v1, v2, v3, .int .i64 l.positions, .int .i64 l.speed, .int .i64 l.leak, .int .i64 l.crest, .int .i64 l.num, .int .i64 l.den, .int .i64 l.prime, .int .i64 l.brk, .int .i64 l.backNum, .int .i64 l.backDen, .int .i64 l.delay], .agg #[.int .i64 g.pos, .int .i64 g.target, .bool g.stuck, .bool g.opened]] w (RetG (moveN l g) w) := by
  obtain ⟨p, t, s, o⟩ := g
  dsimp only at h2 h3 ⊢
  have H1 := Lib.hid h1
  have H2 := Lib.hid h2
  have H3 := Lib.hid h3
  have H0 : Hid (I64 0) := Lib.hid ⟨by decide, by decide⟩
  have K1 : Hid (I64 (subS t p)) := Lib.hid (subS_bd _ _)
  have K2 : Hid (I64 (subS 0 l.speed)) := Lib.hid (subS_bd _ _)
  have K3 : Hid (I64 (clampN (subS t p) (subS 0 l.speed) l.speed)) := Lib.hid (clamp_bd K1.out K2.out h1)
  clear h1 h2 h3
  cases s
  · have HE : Hid (moveN l ⟨p, t, false, o⟩ = ⟨addS p (clampN (subS t p) (subS 0 l.speed) l.speed), t, false, o⟩) := Lib.hid rfl
    go_enter Try.func13, Try.ntmps13
    go_wp2_with fail
    go_quiet ((first | (go_at_call 23; exact Calls.quiet_of_same (sub_q _ _ _ (by first | exact H3.out | exact H0.out) (by first | exact H2.out | exact H1.out))) | (go_at_call 11; exact Calls.quiet_of_same (clamp_q _ _ _ _))))
    go_wp2_with fail
    refine (add_any _ _ _ H2.out K3.out).mono ?_
    rintro e w1 ⟨rfl, rfl⟩
    go_wp2_with fail
    refine bodyPost_ret (v := .agg #[.int .i64 _, .int .i64 t, .bool false, .bool o]) (by simp [results, Try.results13, go_sem]) rfl (retG_mk HE.out ?_)
    (repeat (first | with_reducible exact Below.refl _ _ | with_reducible refine Below.setCell ?_ (by first | exact Nat.le_refl _ | (simp; done) | (simp; omega)) _ | with_reducible refine Below.alloc ?_ (by first | exact Nat.le_refl _ | (simp; done) | (simp; omega)) _ | with_reducible refine below_drewN ?_))
  · have HE : Hid (moveN l ⟨p, t, true, o⟩ = ⟨p, t, true, o⟩) := Lib.hid rfl
    go_enter Try.func13, Try.ntmps13
    go_wp2_with fail
    refine bodyPost_ret (v := .agg #[.int .i64 p, .int .i64 t, .bool true, .bool o]) (by simp [results, Try.results13, go_sem]) rfl (retG_mk HE.out ?_)
    (repeat (first | with_reducible exact Below.refl _ _ | with_reducible refine Below.setCell ?_ (by first | exact Nat.le_refl _ | (simp; done) | (simp; omega)) _ | with_reducible refine Below.alloc ?_ (by first | exact Nat.le_refl _ | (simp; done) | (simp; omega)) _ | with_reducible refine below_drewN ?_))
set_option maxRecDepth 100000 in
set_option maxHeartbeats 2000000 in
theorem aim_any (l : LinkV) (v1 v2 v3 : Value) (g : GateV) (n : Int) (w : World) :
    Calls Try.prog 10 #[.agg #[.string l.name, .int .i64 l.kind, .int .i64 l.src, .int .i64 l.dst, v1, v2, v3, .int .i64 l.positions, .int .i64 l.speed, .int .i64 l.leak, .int .i64 l.crest, .int .i64 l.num, .int .i64 l.den, .int .i64 l.prime, .int .i64 l.brk, .int .i64 l.backNum, .int .i64 l.backDen, .int .i64 l.delay], .agg #[.int .i64 g.pos, .int .i64 g.target, .bool g.stuck, .bool g.opened], .int .i64 n] w (RetG (aimN l g n) w) := by
  obtain ⟨p, t, s, o⟩ := g
  dsimp only
  by_cases h : l.positions = 0
  · have HE : Hid (aimN l ⟨p, t, s, o⟩ n = ⟨p, t, s, o⟩) := Lib.hid (by unfold aimN; rw [if_pos h])
    go_enter Try.func10, Try.ntmps10
    go_wp2_with fail
    refine bodyPost_ret (v := .agg #[.int .i64 p, .int .i64 t, .bool s, .bool o]) (by simp [results, Try.results10, go_sem]) rfl (retG_mk HE.out ?_)
    (repeat (first | with_reducible exact Below.refl _ _ | with_reducible refine Below.setCell ?_ (by first | exact Nat.le_refl _ | (simp; done) | (simp; omega)) _ | with_reducible refine Below.alloc ?_ (by first | exact Nat.le_refl _ | (simp; done) | (simp; omega)) _ | with_reducible refine below_drewN ?_))
  · have HE : Hid (aimN l ⟨p, t, s, o⟩ n = ⟨p, clampN n 0 l.positions, s, o⟩) := Lib.hid (by unfold aimN; rw [if_neg h])
    go_enter Try.func10, Try.ntmps10
    go_wp2_with fail
    refine (clamp_any n 0 l.positions _).mono ?_
    rintro e w1 ⟨rfl, rfl⟩
    go_wp2_with fail
    refine bodyPost_ret (v := .agg #[.int .i64 p, .int .i64 _, .bool s, .bool o]) (by simp [results, Try.results10, go_sem]) rfl (retG_mk HE.out ?_)
    (repeat (first | with_reducible exact Below.refl _ _ | with_reducible refine Below.setCell ?_ (by first | exact Nat.le_refl _ | (simp; done) | (simp; omega)) _ | with_reducible refine Below.alloc ?_ (by first | exact Nat.le_refl _ | (simp; done) | (simp; omega)) _ | with_reducible refine below_drewN ?_))
set_option maxRecDepth 100000 in
set_option maxHeartbeats 4000000 in
theorem fault_any (l : LinkV) (v1 v2 v3 : Value) (g : GateV) (k : Int) (hk : k = 0 ∨ k = 1) (w : World) :
    Calls Try.prog 12 #[.agg #[.string l.name, .int .i64 l.kind, .int .i64 l.src, .int .i64 l.dst, v1, v2, v3, .int .i64 l.positions, .int .i64 l.speed, .int .i64 l.leak, .int .i64 l.crest, .int .i64 l.num, .int .i64 l.den, .int .i64 l.prime, .int .i64 l.brk, .int .i64 l.backNum, .int .i64 l.backDen, .int .i64 l.delay], .agg #[.int .i64 g.pos, .int .i64 g.target, .bool g.stuck, .bool g.opened], .int .i64 k] w (RetG (faultN l g k) w) := by
  obtain ⟨p, t, s, o⟩ := g
  dsimp only
  rcases hk with rfl | rfl
  · have HE : Hid (faultN l ⟨p, t, s, o⟩ 0 = ⟨p, t, true, o⟩) := Lib.hid rfl
    go_enter Try.func12, Try.ntmps12
    go_wp2_with fail
    refine bodyPost_ret (v := .agg #[.int .i64 p, .int .i64 t, .bool true, .bool o]) (by simp [results, Try.results12, go_sem]) rfl (retG_mk HE.out ?_)
    (repeat (first | with_reducible exact Below.refl _ _ | with_reducible refine Below.setCell ?_ (by first | exact Nat.le_refl _ | (simp; done) | (simp; omega)) _ | with_reducible refine Below.alloc ?_ (by first | exact Nat.le_refl _ | (simp; done) | (simp; omega)) _ | with_reducible refine below_drewN ?_))
  · have HE : Hid (faultN l ⟨p, t, s, o⟩ 1 = ⟨p, t, false, o⟩) := Lib.hid rfl
    go_enter Try.func12, Try.ntmps12
    go_wp2_with fail
    refine bodyPost_ret (v := .agg #[.int .i64 p, .int .i64 t, .bool false, .bool o]) (by simp [results, Try.results12, go_sem]) rfl (retG_mk HE.out ?_)
    (repeat (first | with_reducible exact Below.refl _ _ | with_reducible refine Below.setCell ?_ (by first | exact Nat.le_refl _ | (simp; done) | (simp; omega)) _ | with_reducible refine Below.alloc ?_ (by first | exact Nat.le_refl _ | (simp; done) | (simp; omega)) _ | with_reducible refine below_drewN ?_))
end Go.Proofs.Ytkoobkcmmfdlhaa
