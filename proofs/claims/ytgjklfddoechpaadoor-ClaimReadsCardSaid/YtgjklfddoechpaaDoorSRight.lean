/- sign.Right. -/
import Derived.Test.YtgjklfddoechpaaDoorSKey
import Derived.Outline
namespace Go.Proofs.YtgjklfddoechpaaDoor
open Go.RowKit
set_option maxRecDepth 100000 in
set_option maxHeartbeats 2000000 in
theorem right_yes (x : Nat) (p : Int) (w : World) (h1 : 1 ≤ x) (h2 : x < 1152921504606845789) :
    Calls Tryd.prog 11 #[.agg #[.int .i64 x, .int .i64 p]] w fun e w' => e = .returned (.bool (decide (p = (pubN x : Nat)))) ∧ Below w.heap.size w w' := by
  have HZ := Lib.hid (heap_alloc_new w (.cells #[.int .i64 x, .int .i64 p] 39))
  have HB := Lib.hid ((Below.refl w.heap.size w).alloc (Nat.le_refl _) (.cells #[.int .i64 x, .int .i64 p] 39))
  obtain ⟨z, hz⟩ : ∃ z, z = pubN x := ⟨_, rfl⟩
  have HE : Hid (resN 4 gP ^ ((x : Int)).toNat % gP = z) := Lib.hid (by rw [hz, Int.toNat_natCast]; rfl)
  rw [← hz]
  clear hz
  have t1 : decide (1 ≤ (x : Int)) = true := decide_eq_true (by omega)
  have t2 : decide ((x : Int) < 1152921504606845789) = true := decide_eq_true (by omega)
  have hX : ∀ n, Calls Tryd.prog 28 #[.int .i64 4, .int .i64 x] n fun e w' => e = .returned (.int .i64 (z : Nat)) ∧ ∃ k, w' = n.drewN k := fun n => by
    have h := exp_any 4 x n (by decide) ⟨by omega, by omega⟩
    rw [HE.out] at h
    exact h
  have HX := Lib.hid hX
  clear hX
  go_enter Tryd.func11, Tryd.ntmps11
  go_upto_region 1 with fail
  generalize w.alloc (.cells #[.int .i64 x, .int .i64 p] 39) = w2 at *
  have c0 : w2.cell? ⟨w.heap.size, 0, none⟩ = some (.int .i64 x) := (cell_of_row _ _ _ _ _ _ HZ.out).trans rfl
  have c1 : w2.cell? ⟨w.heap.size, 1, none⟩ = some (.int .i64 p) := (cell_of_row _ _ _ _ _ _ HZ.out).trans rfl
  go_quiet ((go_at_call 28; exact Calls.quiet_of (HX.out _)))
  go_wp2_with fail
  go_ret
  exact ⟨rfl, below_drewN HB.out⟩
set_option maxRecDepth 100000 in
set_option maxHeartbeats 2000000 in
theorem right_no (x p : Int) (w : World) (h : x < 1 ∨ 1152921504606845789 ≤ x) :
    Calls Tryd.prog 11 #[.agg #[.int .i64 x, .int .i64 p]] w fun e w' => e = .returned (.bool false) ∧ Below w.heap.size w w' := by
  have HZ := Lib.hid (heap_alloc_new w (.cells #[.int .i64 x, .int .i64 p] 39))
  have HB := Lib.hid ((Below.refl w.heap.size w).alloc (Nat.le_refl _) (.cells #[.int .i64 x, .int .i64 p] 39))
  by_cases h1 : 1 ≤ x
  · have t1 : decide (1 ≤ x) = true := decide_eq_true h1
    have t2 : decide (x < 1152921504606845789) = false := decide_eq_false (by omega)
    clear h h1
    go_enter Tryd.func11, Tryd.ntmps11
    go_upto_region 1 with fail
    generalize w.alloc (.cells #[.int .i64 x, .int .i64 p] 39) = w2 at *
    have c0 : w2.cell? ⟨w.heap.size, 0, none⟩ = some (.int .i64 x) := (cell_of_row _ _ _ _ _ _ HZ.out).trans rfl
    go_quiet (fail)
    go_wp2_with fail
    go_ret
    exact ⟨rfl, below_drewN HB.out⟩
  · have t1 : decide (1 ≤ x) = false := decide_eq_false h1
    clear h h1
    go_enter Tryd.func11, Tryd.ntmps11
    go_upto_region 1 with fail
    generalize w.alloc (.cells #[.int .i64 x, .int .i64 p] 39) = w2 at *
    have c0 : w2.cell? ⟨w.heap.size, 0, none⟩ = some (.int .i64 x) := (cell_of_row _ _ _ _ _ _ HZ.out).trans rfl
    go_quiet (fail)
    go_wp2_with fail
    go_ret
    exact ⟨rfl, below_drewN HB.out⟩
end Go.Proofs.YtgjklfddoechpaaDoor
