/- bournelaw19.light. -/
import Derived.Test.YtkoobkcmmfdlhaaBRight
namespace Go.Proofs.Ytkoobkcmmfdlhaa
open Go.RowKit
set_option maxRecDepth 100000 in
set_option maxHeartbeats 8000000 in
theorem light_any (b : BasinV) (p0 p1 p2 p3 p4 p5 p6 p7 : Option Addr) (q0 q1 q2 q3 q4 q5 q6 q7 : Nat) (w : World) (hS : BasinS b p0 p1 p2 p3 p4 p5 p6 p7 q0 q1 q2 q3 q4 q5 q6 q7 w) (hnm : b.name.size ≤ maxLen) : Calls Try.prog 14 #[.agg #[.string b.name, .slice p0 b.owners.length q0, .int .i64 b.cells, .slice p1 b.places.length q1, .slice p2 b.links.length q2, .slice p3 b.towns.length q3, .slice p4 b.gauges.length q4, .slice p5 b.roads.length q5, .slice p6 b.shelters.length q6, .slice p7 b.room.length q7, .int .i64 b.err]] w (RetT (RightB b) w) := by
  obtain ⟨-, -, hpl, hpm⟩ := hS.l1.slice
  have HS := Lib.hid hS
  have HNM := Lib.hid hnm
  clear hS hnm
  go_enter Try.func14, Try.ntmps14
  go_upto_region 1 with fail
  have HR0 := Lib.hid (heap_alloc_new w (.cells #[.string b.name, .slice p0 b.owners.length q0, .int .i64 b.cells, .slice p1 b.places.length q1, .slice p2 b.links.length q2, .slice p3 b.towns.length q3, .slice p4 b.gauges.length q4, .slice p5 b.roads.length q5, .slice p6 b.shelters.length q6, .slice p7 b.room.length q7, .int .i64 b.err] 45))
  have HB0 := Lib.hid ((Below.refl w.heap.size w).alloc (Nat.le_refl _) (.cells #[.string b.name, .slice p0 b.owners.length q0, .int .i64 b.cells, .slice p1 b.places.length q1, .slice p2 b.links.length q2, .slice p3 b.towns.length q3, .slice p4 b.gauges.length q4, .slice p5 b.roads.length q5, .slice p6 b.shelters.length q6, .slice p7 b.room.length q7, .int .i64 b.err] 45))
  generalize w.alloc (.cells #[.string b.name, .slice p0 b.owners.length q0, .int .i64 b.cells, .slice p1 b.places.length q1, .slice p2 b.links.length q2, .slice p3 b.towns.length q3, .slice p4 b.gauges.length q4, .slice p5 b.roads.length q5, .slice p6 b.shelters.length q6, .slice p7 b.room.length q7, .int .i64 b.err] 45) = w0 at *
  have b3 := rowN HR0.out 3 (.slice p1 b.places.length q1) rfl
  have b4 := rowN HR0.out 4 (.slice p2 b.links.length q2) rfl
  by_cases h1 : b.places.length ≤ 10
  rotate_left 1
  · have t1 : ¬ (b.places.length : Int) ≤ 10 := by omega
    go_wp2_with fail
    go_ret
    exact retT_no HB0.out
  · have t1 : (b.places.length : Int) ≤ 10 := by omega
    by_cases h2 : b.links.length ≤ 10
    rotate_left 1
    · have t2 : ¬ (b.links.length : Int) ≤ 10 := by omega
      go_wp2_with fail
      go_ret
      exact retT_no HB0.out
    · have t2 : (b.links.length : Int) ≤ 10 := by omega
      go_wp2_with (refine wpList_load_rowW (by first | (go_simp; done) | rfl) 45 _ rfl _ rfl 45 _ _ _ HR0.out undBa rfl infoBa ?_)
      refine (basin_right b _ _ _ _ _ _ _ _ _ _ _ _ _ _ _ _ _ (HS.out.below HB0.out) HNM.out).mono ?_
      rintro e w1 ⟨b1, hq, rfl, hb⟩
      have HB1 := Lib.hid (HB0.out.trans (hb.mono HB0.out.size))
      have HQ := Lib.hid hq
      clear hq hb
      go_wp2_with fail
      go_ret
      exact ⟨b1, HQ.out, rfl, HB1.out⟩
end Go.Proofs.Ytkoobkcmmfdlhaa
