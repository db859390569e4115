/- Package gram: numbers, wellFormed. -/
import Derived.Test.YtmlfkhpmgjcliaaDoorWText
import Derived.Test.YtmlfkhpmgjcliaaDoorGOrd
import Derived.Handy
import Derived.Laws.StructEq
namespace Go.Proofs.YtmlfkhpmgjcliaaDoor
open Go.RowKit
set_option maxRecDepth 100000 in
set_option maxHeartbeats 1000000 in
theorem numbers_any (g : GV) (w : World) :
    Calls Tryd.prog 55 #[.agg #[.int .i64 g.gauge, .int .i64 g.seq, .int .i64 g.clock, .int .i64 g.value, .string g.tag]] w
      fun e w' => e = .returned (.agg #[.int .i64 g.gauge, .int .i64 g.seq, .int .i64 g.clock, .int .i64 g.value]) ∧ Below w.heap.size w w' := by
  have HB : Hid (∀ A B, Below w.heap.size w ((w.alloc A).alloc B)) := Lib.hid (fun A B => ((Below.refl _ _).alloc (Nat.le_refl _) _).alloc (by simp) _)
  go_enter Tryd.func55, Tryd.ntmps55
  go_wp2_with fail
  go_returns
  exact ⟨rfl, HB.out _ _⟩
theorem undI4 : Tryd.prog.underlying 3 = some (.int .i64) := by kernel_rfl
theorem und4 : Tryd.prog.underlying 89 = some (.array 4 3) := by kernel_rfl
theorem info4 : (Tryd.prog.info? 89).map (·.size) = some 4 := by kernel_rfl
theorem index4 (a b c d : Int) (j : Nat) (hj : j < 4) (w : World) : (Instr.index 89 (.agg #[.int .i64 a, .int .i64 b, .int .i64 c, .int .i64 d]) (.int .i64 (j : Int))).run Tryd.prog w = .ok (.int .i64 ([a, b, c, d][j]?.getD 0)) w := by
  obtain ⟨d0, hu⟩ : ∃ d0, Tryd.prog.underlying 3 = some d0 := ⟨_, undI4⟩
  have hs : (Tryd.prog.info? 3).map (·.size) = some 1 := by kernel_rfl
  cases hq : Tryd.prog.info? 3 with
  | none => rw [hq] at hs; cases hs
  | some i =>
    have hs' : i.size = 1 := by simpa [hq] using hs
    match j, hj with
    | 0, _ => simp [Instr.index, asIntOf, run_underlying und4, sizeOf, typeInfo, hq, hs', part, isAgg, run_underlying undI4]
    | 1, _ => simp [Instr.index, asIntOf, run_underlying und4, sizeOf, typeInfo, hq, hs', part, isAgg, run_underlying undI4]
    | 2, _ => simp [Instr.index, asIntOf, run_underlying und4, sizeOf, typeInfo, hq, hs', part, isAgg, run_underlying undI4]
    | 3, _ => simp [Instr.index, asIntOf, run_underlying und4, sizeOf, typeInfo, hq, hs', part, isAgg, run_underlying undI4]
theorem eq4 (a b c d a' b' c' d' : Int) (w : World) : (Op.equalIn 10000 89 (.agg #[.int .i64 a, .int .i64 b, .int .i64 c, .int .i64 d]) (.agg #[.int .i64 a', .int .i64 b', .int .i64 c', .int .i64 d'])).run Tryd.prog w = .ok (decide (a = a' ∧ b = b' ∧ c = c' ∧ d = d')) w := by
  have u3 := Tryd.underlying3
  have a3 := Tryd.isAgg3
  have z3 := Tryd.sizeOf3
  rw [show (10000 : Nat) = 9999 + 1 from rfl, Op.equalIn]
  simp only [Sem.run_bind, run_underlying und4, Result.andThen_ok]
  simp only [Std.Legacy.Range.forIn_eq_forIn_range', Std.Legacy.Range.size, Nat.sub_zero, Nat.add_sub_cancel, Nat.div_one, List.range'_succ, List.range'_zero, List.forIn_cons, List.forIn_nil]
  go_simp
  by_cases h1 : a = a' <;> by_cases h2 : b = b' <;> by_cases h3 : c = c' <;> by_cases h4 : d = d' <;> simp [h1, h2, h3, h4]
theorem undG : ∃ fs, Tryd.prog.underlying 23 = some (.struct fs) := by
  have h : (match Tryd.prog.underlying 23 with | some (.struct _) => true | _ => false) = true := by kernel_rfl
  split at h
  · next fs hu => exact ⟨fs, hu⟩
  · cases h
theorem infoG : (Tryd.prog.info? 23).map (·.size) = some 5 := by kernel_rfl
end Go.Proofs.YtmlfkhpmgjcliaaDoor
