/- Spans: Has, Of, Right, Join, Within. -/
import Derived.Test.YtkoobkcmmfdlhaaUEq
namespace Go.Proofs.Ytkoobkcmmfdlhaa
open Go.RowKit
def hasS (s : SpanV) (n : Int) : Bool := decide (s.lo ≤ n) && decide (n ≤ s.hi)
theorem hasS_iff {s : SpanV} {n : Int} : hasS s n = true ↔ s.lo ≤ n ∧ n ≤ s.hi := by unfold hasS; simp
def joinS (a b : SpanV) : SpanV := ⟨min a.lo b.lo, max a.hi b.hi⟩
def withinS (a b : SpanV) : Bool := decide (b.lo ≤ a.lo) && decide (a.hi ≤ b.hi)
theorem withinS_iff {a b : SpanV} : withinS a b = true ↔ b.lo ≤ a.lo ∧ a.hi ≤ b.hi := by unfold withinS; simp
theorem within_join (a b : SpanV) : (decide (min a.lo b.lo = b.lo) && decide (max a.hi b.hi = b.hi)) = withinS a b := by
  unfold withinS
  congr 1
  · exact decide_eq_decide.2 (by omega)
  · exact decide_eq_decide.2 (by omega)
set_option maxRecDepth 100000 in
set_option maxHeartbeats 1000000 in
theorem has_any (s : SpanV) (n : Int) (w : World) : Calls Try.prog 16 #[.agg #[.int .i64 s.lo, .int .i64 s.hi], .int .i64 n] w (RetB (hasS s n) w) := by
  by_cases h1 : s.lo ≤ n
  · by_cases h2 : n ≤ s.hi
    · have HE : Hid (hasS s n = true) := Lib.hid (hasS_iff.2 ⟨h1, h2⟩)
      go_enter Try.func16, Try.ntmps16
      go_wp2_with fail
      go_ret
      exact retB_mk HE.out ((Below.refl _ _).alloc (Nat.le_refl _) _)
    · have HE : Hid (hasS s n = false) := Lib.hid (by unfold hasS; simp [h2])
      go_enter Try.func16, Try.ntmps16
      go_wp2_with fail
      go_ret
      exact retB_mk HE.out ((Below.refl _ _).alloc (Nat.le_refl _) _)
  · have HE : Hid (hasS s n = false) := Lib.hid (by unfold hasS; simp [h1])
    go_enter Try.func16, Try.ntmps16
    go_wp2_with fail
    go_ret
    exact retB_mk HE.out ((Below.refl _ _).alloc (Nat.le_refl _) _)
set_option maxRecDepth 100000 in
set_option maxHeartbeats 1000000 in
theorem rightS_any (s : SpanV) (w : World) : Calls Try.prog 19 #[.agg #[.int .i64 s.lo, .int .i64 s.hi]] w (RetB (decide (s.lo ≤ s.hi)) w) := by
  go_enter Try.func19, Try.ntmps19
  go_wp2_with fail
  go_ret
  exact retB_mk rfl ((Below.refl _ _).alloc (Nat.le_refl _) _)
set_option maxRecDepth 100000 in
set_option maxHeartbeats 1000000 in
theorem of_any (n : Int) (w : World) : Calls Try.prog 22 #[.int .i64 n] w (RetS ⟨n, n⟩ w) := by
  go_enter Try.func22, Try.ntmps22
  go_wp2_with fail
  exact bodyPost_ret (v := .agg #[.int .i64 n, .int .i64 n]) (results_cell_row rfl _ _ _ 50 _ (0, 0) _ rfl (heap_alloc_new w _) undSp rfl infoSp) rfl (retS_mk rfl ((Below.refl _ _).alloc (Nat.le_refl _) _))
set_option maxRecDepth 100000 in
set_option maxHeartbeats 1000000 in
theorem join_any (a b : SpanV) (w : World) : Calls Try.prog 28 #[.agg #[.int .i64 a.lo, .int .i64 a.hi], .agg #[.int .i64 b.lo, .int .i64 b.hi]] w (RetS (joinS a b) w) := by
  have m1 : min (a.lo : Int) b.lo = (joinS a b).lo := rfl
  have m2 : max (a.hi : Int) b.hi = (joinS a b).hi := rfl
  go_enter Try.func28, Try.ntmps28
  go_wp2_with fail
  obtain ⟨-, -, r2, rb⟩ := three_rowsV (w := w) (A := .cells #[.int .i64 a.lo, .int .i64 a.hi] 50) (B := .cells #[.int .i64 b.lo, .int .i64 b.hi] 50) (C := .cells #[.int .i64 (joinS a b).lo, .int .i64 (joinS a b).hi] 50)
  exact bodyPost_ret (v := .agg #[.int .i64 (joinS a b).lo, .int .i64 (joinS a b).hi]) (results_cell_row rfl _ _ _ 50 _ (0, 0) _ rfl r2 undSp rfl infoSp) rfl (retS_mk rfl rb)
set_option maxRecDepth 100000 in
set_option maxHeartbeats 1000000 in
theorem within_any (a b : SpanV) (w : World) : Calls Try.prog 18 #[.agg #[.int .i64 a.lo, .int .i64 a.hi], .agg #[.int .i64 b.lo, .int .i64 b.hi]] w (RetB (withinS a b) w) := by
  have HE := Lib.hid (within_join a b)
  obtain ⟨r0, r1, rb⟩ := two_rowsV (w := w) (A := .cells #[.int .i64 a.lo, .int .i64 a.hi] 50) (B := .cells #[.int .i64 b.lo, .int .i64 b.hi] 50)
  go_enter Try.func18, Try.ntmps18
  go_upto_region 1 with fail
  generalize (w.alloc (.cells #[.int .i64 a.lo, .int .i64 a.hi] 50)).alloc (.cells #[.int .i64 b.lo, .int .i64 b.hi] 50) = w0 at *
  have q6 := eqS
  refine wp_region_noPanic ?_
  refine wp_region_held_drew (S := (fun c => c.heap[w.heap.size]? = some (.cells #[.int .i64 a.lo, .int .i64 a.hi] 50 (0, 0)) ∧ c.heap[w.heap.size + 1]? = some (.cells #[.int .i64 b.lo, .int .i64 b.hi] 50 (0, 0)) ∧ Below w.heap.size w c)) (by kernel_rfl) ⟨r0, r1, rb.drew⟩ (fun hHeld => ?_)
  refine' wpAnyH_take (i := 0) (v := _) (by simp only [List.getElem?_toArray, List.getElem?_cons_zero]; exact rfl) (by kernel_rfl) (by kernel_rfl) (by kernel_rfl) (fun _ _ _ h => h) (Or.inl ⟨by rfl, ?y0x1⟩) hHeld ?r0x1
  case y0x1 => (intro w hSw; refine exec_load_row 50 ?_ ?_ _ ?_ 50 _ _ _ (hSw.1) undSp rfl infoSp; rotate_left 1; exact rfl; exact rfl)
  try simp only [Act.put, List.setIfInBounds_toArray, List.set_cons_zero, List.set_cons_succ]
  refine' wpAnyH_take (i := 1) (v := _) (by simp only [List.getElem?_toArray, List.getElem?_cons_succ, List.getElem?_cons_zero]; exact rfl) (by kernel_rfl) (by kernel_rfl) (by kernel_rfl) (fun _ _ _ h => h) (Or.inl ⟨by rfl, ?y1x2⟩) hHeld ?r1x2
  case y1x2 => (intro w hSw; refine exec_load_row 50 ?_ ?_ _ ?_ 50 _ _ _ (hSw.2.1) undSp rfl infoSp; rotate_left 1; exact rfl; exact rfl)
  try simp only [Act.put, List.setIfInBounds_toArray, List.set_cons_zero, List.set_cons_succ]
  refine' wpAnyH_take (i := 3) (v := _) (by simp only [List.getElem?_toArray, List.getElem?_cons_succ, List.getElem?_cons_zero]; exact rfl) (by kernel_rfl) (by kernel_rfl) (by kernel_rfl) (fun _ _ _ h => h) (Or.inl ⟨by rfl, ?y3x3⟩) hHeld ?r3x3
  case y3x3 => (intro w hSw; refine exec_load_row 50 ?_ ?_ _ ?_ 50 _ _ _ (hSw.2.1) undSp rfl infoSp; rotate_left 1; exact rfl; exact rfl)
  try simp only [Act.put, List.setIfInBounds_toArray, List.set_cons_zero, List.set_cons_succ]
  refine wpAnyH_ready (rs := [2]) (by kernel_rfl) (by simp) ?_
  refine AllReadyH.cons (by simp only [List.getElem?_toArray, List.getElem?_cons_succ, List.getElem?_cons_zero]; exact rfl) (fun K hK => ?_) AllReadyH.nil
  go_simp
  refine (join_any a b _).mono ?_
  rintro e w' ⟨rfl, hb⟩
  refine hK.out _ _ (⟨blk_below hHeld.1 hb (blk_lt hHeld.1), blk_below hHeld.2.1 hb (blk_lt hHeld.2.1), hHeld.2.2.trans (hb.mono hHeld.2.2.size)⟩) (fun hHeld => ?_)
  clear hK K hb
  try simp only [Act.put, List.setIfInBounds_toArray, List.set_cons_zero, List.set_cons_succ]
  refine' wpAnyH_take (i := 4) (v := _) (by simp only [List.getElem?_toArray, List.getElem?_cons_succ, List.getElem?_cons_zero]; exact rfl) (by kernel_rfl) (by kernel_rfl) (by kernel_rfl) (fun _ _ _ h => h) (Or.inl ⟨by rfl, ?y4x4⟩) hHeld ?r4x4
  case y4x4 => (intro w hSw; (try dsimp only at hSw); go_simp; try with_reducible rfl)
  try simp only [Act.put, List.setIfInBounds_toArray, List.set_cons_zero, List.set_cons_succ]
  refine' wpAnyH_take (i := 5) (v := _) (by simp only [List.getElem?_toArray, List.getElem?_cons_succ, List.getElem?_cons_zero]; exact rfl) (by kernel_rfl) (by kernel_rfl) (by kernel_rfl) (fun _ _ _ h => h) (Or.inl ⟨by rfl, ?y5x5⟩) hHeld ?r5x5
  case y5x5 => (intro w hSw; (try dsimp only at hSw); go_simp; try with_reducible rfl)
  try simp only [Act.put, List.setIfInBounds_toArray, List.set_cons_zero, List.set_cons_succ]
  refine wpAnyH_done (by kernel_rfl) ?_ _
  refine NoPanic.normal ?_
  have HBW := Lib.hid hHeld.2.2
  clear q6
  go_wp2_with fail
  go_ret
  exact retB_mk HE.out.symm HBW.out
end Go.Proofs.Ytkoobkcmmfdlhaa
