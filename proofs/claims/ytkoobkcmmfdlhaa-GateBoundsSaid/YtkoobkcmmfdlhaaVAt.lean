/- curve.At and curve.Under. -/
import Derived.Test.YtkoobkcmmfdlhaaVValue
namespace Go.Proofs.Ytkoobkcmmfdlhaa
open Go.RowKit
def RetI (n : Int) (w : World) (e : Ending) (w' : World) : Prop := e = .returned (.int .i64 n) ∧ Below w.heap.size w w'
theorem retI_mk {n m : Int} {w w' : World} (h : n = m) (hb : Below w.heap.size w w') : RetI n w (.returned (.int .i64 m)) w' := ⟨by rw [h], hb⟩
set_option maxRecDepth 100000 in
set_option maxHeartbeats 2000000 in
theorem at_any (l : List PointV) (v : Value) (x : Int) (w : World) (hL : LArg RPoint 2 v l w) : Calls Try.prog 41 #[v, .int .i64 x] w (RetI (atC l x) w) := by
  have HL := Lib.hid hL
  clear hL
  cases hr : rightC l
  · have HE : Hid (atC l x = 0) := Lib.hid (by unfold atC; rw [hr]; rfl)
    have HR := Lib.hid hr
    clear hr
    go_enter Try.func41, Try.ntmps41
    go_wp2_with fail
    refine (right_any l v _ HL.out).mono ?_
    rintro e w1 ⟨rfl, hb⟩
    rw [HR.out]
    go_wp2_with fail
    go_ret
    exact retI_mk HE.out hb
  · have HE : Hid (atC l x = (value l x).1) := Lib.hid (by unfold atC; rw [hr]; rfl)
    have HR := Lib.hid hr
    clear hr
    go_enter Try.func41, Try.ntmps41
    go_wp2_with fail
    refine (right_any l v _ HL.out).mono ?_
    rintro e w1 ⟨rfl, hb⟩
    rw [HR.out]
    go_wp2_with fail
    refine (value_any l v x _ (HL.out.below stays_Point hb) HR.out).mono ?_
    rintro e w2 ⟨rfl, hb2⟩
    go_wp2_with fail
    go_ret
    exact retI_mk HE.out (hb.trans (hb2.mono hb.size))
end Go.Proofs.Ytkoobkcmmfdlhaa
