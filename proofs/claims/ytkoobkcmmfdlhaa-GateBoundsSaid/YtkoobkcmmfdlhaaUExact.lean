/- Package exact: Clamp, Add and Sub. -/
import Derived.Test.YtkoobkcmmfdlhaaProg
import Derived.Test.YtkoobkcmmfdlhaaULaw
import Derived.WalkKit
import Derived.IntWalk
import Derived.WalkSpells
import Derived.Lib.Hide
namespace Go.Proofs.Ytkoobkcmmfdlhaa
open Go.RowKit
theorem ret_int {k : IntKind} {a b : Int} (h : a = b) : Ending.returned (.int k a) = .returned (.int k b) := by rw [h]
def I64 (n : Int) : Prop := -9223372036854775808 ≤ n ∧ n ≤ 9223372036854775807
set_option maxRecDepth 100000 in
set_option maxHeartbeats 1000000 in
theorem clamp_any (n lo hi : Int) (w : World) : Calls Try.prog 11 #[.int .i64 n, .int .i64 lo, .int .i64 hi] w fun e w' => e = .returned (.int .i64 (clampN n lo hi)) ∧ w = w' := by
  by_cases h1 : n < lo
  · have HE : Hid (clampN n lo hi = lo) := Lib.hid (by unfold clampN; rw [if_pos h1])
    go_enter Try.func11, Try.ntmps11
    go_wp2
    go_ret
    exact ⟨ret_int HE.out.symm, rfl⟩
  · by_cases h2 : hi < n
    · have HE : Hid (clampN n lo hi = hi) := Lib.hid (by unfold clampN; rw [if_neg h1, if_pos h2])
      go_enter Try.func11, Try.ntmps11
      go_wp2
      go_ret
      exact ⟨ret_int HE.out.symm, rfl⟩
    · have HE : Hid (clampN n lo hi = n) := Lib.hid (by unfold clampN; rw [if_neg h1, if_neg h2])
      go_enter Try.func11, Try.ntmps11
      go_wp2
      go_ret
      exact ⟨ret_int HE.out.symm, rfl⟩
set_option maxRecDepth 100000 in
set_option maxHeartbeats 1000000 in
theorem add_any (a b : Int) (w : World) (ha : I64 a) (hb : I64 b) : Calls Try.prog 24 #[.int .i64 a, .int .i64 b] w fun e w' => e = .returned (.int .i64 (addS a b)) ∧ w = w' := by
  unfold I64 at ha hb
  by_cases h1 : 0 < b
  · by_cases h2 : 9223372036854775807 - b < a
    · have HE : Hid (addS a b = 9223372036854775807) := Lib.hid (by unfold addS; rw [if_pos (by omega)])
      go_enter Try.func24, Try.ntmps24
      go_wp2
      go_ret
      exact ⟨ret_int HE.out.symm, rfl⟩
    · have HE : Hid (addS a b = a + b) := Lib.hid (addS_in (by omega) (by omega))
      have t1 : ¬ b < 0 := by omega
      go_enter Try.func24, Try.ntmps24
      go_wp2
      go_ret
      exact ⟨ret_int HE.out.symm, rfl⟩
  · by_cases h2 : b < 0
    · by_cases h3 : a < -9223372036854775808 - b
      · have HE : Hid (addS a b = -9223372036854775808) := Lib.hid (by unfold addS; rw [if_neg (by omega), if_pos (by omega)])
        go_enter Try.func24, Try.ntmps24
        go_wp2
        go_ret
        exact ⟨ret_int HE.out.symm, rfl⟩
      · have HE : Hid (addS a b = a + b) := Lib.hid (addS_in (by omega) (by omega))
        go_enter Try.func24, Try.ntmps24
        go_wp2
        go_ret
        exact ⟨ret_int HE.out.symm, rfl⟩
    · have HE : Hid (addS a b = a + b) := Lib.hid (addS_in (by omega) (by omega))
      go_enter Try.func24, Try.ntmps24
      go_wp2
      go_ret
      exact ⟨ret_int HE.out.symm, rfl⟩
set_option maxRecDepth 100000 in
set_option maxHeartbeats 1000000 in
theorem sub_any (a b : Int) (w : World) (ha : I64 a) (hb : I64 b) : Calls Try.prog 23 #[.int .i64 a, .int .i64 b] w fun e w' => e = .returned (.int .i64 (subS a b)) ∧ w = w' := by
  unfold I64 at ha hb
  by_cases h1 : b < 0
  · by_cases h2 : 9223372036854775807 + b < a
    · have HE : Hid (subS a b = 9223372036854775807) := Lib.hid (by unfold subS addS; rw [if_pos (by omega)])
      go_enter Try.func23, Try.ntmps23
      go_wp2
      go_ret
      exact ⟨ret_int HE.out.symm, rfl⟩
    · have HE : Hid (subS a b = a - b) := Lib.hid (subS_in (by omega) (by omega))
      have t1 : ¬ 0 < b := by omega
      go_enter Try.func23, Try.ntmps23
      go_wp2
      go_ret
      exact ⟨ret_int HE.out.symm, rfl⟩
  · by_cases h2 : 0 < b
    · by_cases h3 : a < -9223372036854775808 + b
      · have HE : Hid (subS a b = -9223372036854775808) := Lib.hid (by unfold subS addS; rw [if_neg (by omega), if_pos (by omega)])
        go_enter Try.func23, Try.ntmps23
        go_wp2
        go_ret
        exact ⟨ret_int HE.out.symm, rfl⟩
      · have HE : Hid (subS a b = a - b) := Lib.hid (subS_in (by omega) (by omega))
        go_enter Try.func23, Try.ntmps23
        go_wp2
        go_ret
        exact ⟨ret_int HE.out.symm, rfl⟩
    · have HE : Hid (subS a b = a - b) := Lib.hid (subS_in (by omega) (by omega))
      go_enter Try.func23, Try.ntmps23
      go_wp2
      go_ret
      exact ⟨ret_int HE.out.symm, rfl⟩
end Go.Proofs.Ytkoobkcmmfdlhaa
