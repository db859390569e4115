/- Equality of claims and of promises. -/
import Derived.Test.YtgjklfddoechpaaGreatDoorCRead
import Derived.Laws.StructEq
namespace Go.Proofs.YtgjklfddoechpaaGreatDoor
open Go.RowKit
theorem str_eqC {s t : ByteArray} (h : s.toList = t.toList) : s = t := by
  rw [ByteArray.toList_eq, ByteArray.toList_eq] at h
  cases s; cases t; simp at h; rw [h]
theorem ite_ok (p : Prop) [Decidable p] (X : Result Bool) (q : Bool) (w : World) (h : X = .ok q w) : (if p then X else .ok false w) = .ok (decide p && q) w := by
  by_cases hp : p
  · rw [if_pos hp, h, decide_eq_true hp]; rfl
  · rw [if_neg hp, decide_eq_false hp]; rfl
theorem ite_last (p : Prop) [Decidable p] (w : World) : (if p then (.ok true w : Result Bool) else .ok false w) = .ok (decide p) w := by
  by_cases hp : p
  · rw [if_pos hp, decide_eq_true hp]
  · rw [if_neg hp, decide_eq_false hp]
set_option maxHeartbeats 4000000 in
theorem eqC (a0 : Int) (a1 : Int) (a2 : Int) (a3 : Int) (a4 : Int) (a5 : ByteArray) (a6 : Int) (a7 : Int) (b0 : Int) (b1 : Int) (b2 : Int) (b3 : Int) (b4 : Int) (b5 : ByteArray) (b6 : Int) (b7 : Int) (w : World) : (Op.equalIn 10000 25 (.agg #[.int .i64 a0, .int .i64 a1, .int .i64 a2, .int .i64 a3, .int .i64 a4, .string a5, .int .i64 a6, .int .i64 a7]) (.agg #[.int .i64 b0, .int .i64 b1, .int .i64 b2, .int .i64 b3, .int .i64 b4, .string b5, .int .i64 b6, .int .i64 b7])).run Tryz.prog w = .ok (decide (a0 = b0 ∧ a1 = b1 ∧ a2 = b2 ∧ a3 = b3 ∧ a4 = b4 ∧ a5 = b5 ∧ a6 = b6 ∧ a7 = b7)) w := by
  have u3 := Tryz.underlying3
  have ia3 := Tryz.isAgg3
  have z3 := Tryz.sizeOf3
  have u9 := Tryz.underlying9
  have ia9 := Tryz.isAgg9
  have z9 := Tryz.sizeOf9
  have uS := Tryz.underlying23
  have aS := Tryz.isAgg23
  have zS := Tryz.sizeOf23
  have hS : Tryz.prog.underlying 25 = some (.struct (Tryz.prog.fieldsOf 25)) := by kernel_rfl
  have hp : Tryz.prog.stoodInHeld 25 = false := by kernel_rfl
  rw [show (10000 : Nat) = 9999 + 1 from rfl, run_equalIn_agg w 9999 25 _ _ hS hp]
  simp only [Program.fieldsOf, Tryz.underlying25]
  go_simp
  have hs5 : (a5.toList = b5.toList) = (a5 = b5) := propext ⟨str_eqC, fun e => by rw [e]⟩
  simp only [hs5]
  exact ite_ok _ _ _ _ (ite_ok _ _ _ _ (ite_ok _ _ _ _ (ite_ok _ _ _ _ (ite_ok _ _ _ _ (ite_ok _ _ _ _ (ite_ok _ _ _ _ (ite_last _ _)))))))
set_option maxHeartbeats 4000000 in
theorem eqP (a0 : Int) (a1 : Int) (a2 : Int) (a3 : Int) (a4 : Int) (a5 : Int) (b0 : Int) (b1 : Int) (b2 : Int) (b3 : Int) (b4 : Int) (b5 : Int) (w : World) : (Op.equalIn 10000 27 (.agg #[.int .i64 a0, .int .i64 a1, .int .i64 a2, .int .i64 a3, .int .i64 a4, .int .i64 a5]) (.agg #[.int .i64 b0, .int .i64 b1, .int .i64 b2, .int .i64 b3, .int .i64 b4, .int .i64 b5])).run Tryz.prog w = .ok (decide (a0 = b0 ∧ a1 = b1 ∧ a2 = b2 ∧ a3 = b3 ∧ a4 = b4 ∧ a5 = b5)) w := by
  have u3 := Tryz.underlying3
  have ia3 := Tryz.isAgg3
  have z3 := Tryz.sizeOf3
  have u9 := Tryz.underlying9
  have ia9 := Tryz.isAgg9
  have z9 := Tryz.sizeOf9
  have uS := Tryz.underlying23
  have aS := Tryz.isAgg23
  have zS := Tryz.sizeOf23
  have hS : Tryz.prog.underlying 27 = some (.struct (Tryz.prog.fieldsOf 27)) := by kernel_rfl
  have hp : Tryz.prog.stoodInHeld 27 = false := by kernel_rfl
  rw [show (10000 : Nat) = 9999 + 1 from rfl, run_equalIn_agg w 9999 27 _ _ hS hp]
  simp only [Program.fieldsOf, Tryz.underlying27]
  go_simp
  exact ite_ok _ _ _ _ (ite_ok _ _ _ _ (ite_ok _ _ _ _ (ite_ok _ _ _ _ (ite_ok _ _ _ _ (ite_last _ _)))))
end Go.Proofs.YtgjklfddoechpaaGreatDoor
