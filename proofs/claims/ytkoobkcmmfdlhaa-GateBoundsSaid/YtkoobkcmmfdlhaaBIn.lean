/- basin.in, volume, index and fraction. -/
import Derived.Test.YtkoobkcmmfdlhaaUExact
namespace Go.Proofs.Ytkoobkcmmfdlhaa
open Go.RowKit
def inB (n lo hi : Int) : Bool := decide (lo ≤ n) && decide (n ≤ hi)
def volB (n : Int) : Bool := inB n 0 1125899906842624
def fracB (n d : Int) : Bool := volB n && volB d && (d != 0 || n == 0)
theorem inB_iff {n lo hi : Int} : inB n lo hi = true ↔ lo ≤ n ∧ n ≤ hi := by
  unfold inB
  simp
theorem volB_iff {n : Int} : volB n = true ↔ 0 ≤ n ∧ n ≤ 1125899906842624 := inB_iff
theorem fracB_iff {n d : Int} : fracB n d = true ↔ 0 ≤ n ∧ n ≤ 1125899906842624 ∧ 0 ≤ d ∧ d ≤ 1125899906842624 ∧ (d = 0 → n = 0) := by
  unfold fracB
  simp only [Bool.and_eq_true, volB_iff, Bool.or_eq_true, bne_iff_ne, beq_iff_eq, ne_eq]
  by_cases h : d = 0
  · simp [h]; omega
  · simp [h]; omega
def SameB (b : Bool) (w : World) (e : Ending) (w' : World) : Prop := e = .returned (.bool b) ∧ w = w'
theorem sameB_mk {b c : Bool} {w : World} (h : b = c) : SameB b w (.returned (.bool c)) w := ⟨by rw [h], rfl⟩
set_option maxRecDepth 100000 in
set_option maxHeartbeats 1000000 in
theorem in_any (n lo hi : Int) (w : World) : Calls Try.prog 46 #[.int .i64 n, .int .i64 lo, .int .i64 hi] w (SameB (inB n lo hi) w) := by
  by_cases h1 : lo ≤ n
  · by_cases h2 : n ≤ hi
    · have HE : Hid (inB n lo hi = true) := Lib.hid (inB_iff.2 ⟨h1, h2⟩)
      go_enter Try.func46, Try.ntmps46
      go_wp2
      go_ret
      exact sameB_mk HE.out
    · have HE : Hid (inB n lo hi = false) := Lib.hid (by unfold inB; rw [decide_eq_false h2, Bool.and_false])
      go_enter Try.func46, Try.ntmps46
      go_wp2
      go_ret
      exact sameB_mk HE.out
  · have HE : Hid (inB n lo hi = false) := Lib.hid (by unfold inB; rw [decide_eq_false h1, Bool.false_and])
    go_enter Try.func46, Try.ntmps46
    go_wp2
    go_ret
    exact sameB_mk HE.out
set_option maxRecDepth 100000 in
set_option maxHeartbeats 1000000 in
theorem volume_any (n : Int) (w : World) : Calls Try.prog 47 #[.int .i64 n] w (SameB (volB n) w) := by
  go_enter Try.func47, Try.ntmps47
  go_wp2_with fail
  refine (in_any n 0 1125899906842624 _).mono ?_
  rintro e w1 ⟨rfl, rfl⟩
  go_wp2_with fail
  go_ret
  exact sameB_mk rfl
set_option maxRecDepth 100000 in
set_option maxHeartbeats 1000000 in
theorem index_any (n len : Int) (w : World) (hl : 0 ≤ len ∧ len ≤ 9223372036854775807) : Calls Try.prog 52 #[.int .i64 n, .int .i64 len] w (SameB (inB n 0 (len - 1)) w) := by
  go_enter Try.func52, Try.ntmps52
  go_wp2_with fail
  refine (in_any n 0 (len - 1) _).mono ?_
  rintro e w1 ⟨rfl, rfl⟩
  go_wp2_with fail
  go_ret
  exact sameB_mk rfl
set_option maxRecDepth 100000 in
set_option maxHeartbeats 1000000 in
theorem fraction_any (n d : Int) (w : World) : Calls Try.prog 50 #[.int .i64 n, .int .i64 d] w (SameB (fracB n d) w) := by
  cases h1 : volB n
  · have HE : Hid (fracB n d = false) := Lib.hid (by unfold fracB; rw [h1]; rfl)
    have H1 := Lib.hid h1
    clear h1
    go_enter Try.func50, Try.ntmps50
    go_wp2_with fail
    refine (volume_any n _).mono ?_
    rintro e w1 ⟨rfl, rfl⟩
    rw [H1.out]
    go_wp2_with fail
    go_ret
    exact sameB_mk HE.out
  · cases h2 : volB d
    · have HE : Hid (fracB n d = false) := Lib.hid (by unfold fracB; rw [h1, h2]; rfl)
      have H1 := Lib.hid h1
      have H2 := Lib.hid h2
      clear h1 h2
      go_enter Try.func50, Try.ntmps50
      go_wp2_with fail
      refine (volume_any n _).mono ?_
      rintro e w1 ⟨rfl, rfl⟩
      rw [H1.out]
      go_wp2_with fail
      refine (volume_any d _).mono ?_
      rintro e w1 ⟨rfl, rfl⟩
      rw [H2.out]
      go_wp2_with fail
      go_ret
      exact sameB_mk HE.out
    · have HE : Hid (fracB n d = (d != 0 || n == 0)) := Lib.hid (by unfold fracB; rw [h1, h2]; rfl)
      have H1 := Lib.hid h1
      have H2 := Lib.hid h2
      clear h1 h2
      by_cases h3 : d = 0
      · have b3 : (d != 0) = false := by rw [h3]; rfl
        have HF : Hid ((d != 0 || n == 0) = (n == 0)) := Lib.hid (by rw [b3]; rfl)
        clear h3
        go_enter Try.func50, Try.ntmps50
        go_wp2_with fail
        refine (volume_any n _).mono ?_
        rintro e w1 ⟨rfl, rfl⟩
        rw [H1.out]
        go_wp2_with fail
        refine (volume_any d _).mono ?_
        rintro e w1 ⟨rfl, rfl⟩
        rw [H2.out]
        go_wp2_with fail
        go_ret
        exact sameB_mk (HE.out.trans HF.out)
      · have b3 : (d != 0) = true := bne_iff_ne.2 h3
        have HF : Hid ((d != 0 || n == 0) = true) := Lib.hid (by rw [b3]; rfl)
        clear h3
        go_enter Try.func50, Try.ntmps50
        go_wp2_with fail
        refine (volume_any n _).mono ?_
        rintro e w1 ⟨rfl, rfl⟩
        rw [H1.out]
        go_wp2_with fail
        refine (volume_any d _).mono ?_
        rintro e w1 ⟨rfl, rfl⟩
        rw [H2.out]
        go_wp2_with fail
        go_ret
        exact sameB_mk (HE.out.trans HF.out)
end Go.Proofs.Ytkoobkcmmfdlhaa
