/- bournelaw19.small returns true. -/
import Derived.Test.YtkoobkcmmfdlhaaUEq
namespace Go.Proofs.Ytkoobkcmmfdlhaa
open Go.RowKit
theorem larg_two {W : World} {b : Nat} {x y z u : Int} {t : TypeId} (h : W.heap[b]? = some (.cells #[.int .i64 x, .int .i64 y, .int .i64 z, .int .i64 u] t (0, 0))) (h1 : I64 x) (h2 : I64 y) (h3 : I64 z) (h4 : I64 u) :
    LArg RPoint 2 (.slice (some ⟨b, 0, none⟩) 2 2) [⟨x, y⟩, ⟨z, u⟩] W := by
  refine ⟨some ⟨b, 0, none⟩, 2, rfl, Nat.le_refl _, by unfold maxLen; omega, fun j p hj => ?_⟩
  match j, hj with
  | 0, hj =>
    have e : (⟨x, y⟩ : PointV) = p := by simpa using hj
    subst e
    refine ⟨b, 0, [.int .i64 x, .int .i64 y], rfl, blk_lt h, rfl, fun k v hk => ?_, rfl, h1, h2⟩
    match k, hk with
    | 0, hk => exact rowN h 0 v (by simpa using hk)
    | 1, hk => exact rowN h 1 v (by simpa using hk)
    | k + 2, hk => simp at hk
  | 1, hj =>
    have e : (⟨z, u⟩ : PointV) = p := by simpa using hj
    subst e
    refine ⟨b, 0, [.int .i64 z, .int .i64 u], rfl, blk_lt h, rfl, fun k v hk => ?_, rfl, h3, h4⟩
    match k, hk with
    | 0, hk => exact rowN h 2 v (by simpa using hk)
    | 1, hk => exact rowN h 3 v (by simpa using hk)
    | k + 2, hk => simp at hk
  | j + 2, hj => simp at hj
def c0 : List PointV := [⟨0, 0⟩, ⟨100, 50⟩]
def l0 : LinkV := ⟨⟨#[]⟩, 0, 0, 1, c0, ⟨c0, c0⟩, 4, 1, 3, 0, 0, 0, 0, 0, 1, 2, 0⟩
def k0 : KnownV := ⟨⟨1, 2⟩, 4, ⟨0, 0⟩⟩
structure Small19 (w w0 : World) : Prop where
  a1 : ∀ W, Below w0.heap.size w0 W → Calls Try.prog 15 #[.agg #[.string ⟨#[]⟩, .int .i64 0, .int .i64 0, .int .i64 1, .slice (some ⟨w.heap.size, 0, none⟩) 2 2, .slice (some ⟨w.heap.size, 0, none⟩) 2 2, .slice (some ⟨w.heap.size, 0, none⟩) 2 2, .int .i64 4, .int .i64 1, .int .i64 3, .int .i64 0, .int .i64 0, .int .i64 0, .int .i64 0, .int .i64 0, .int .i64 1, .int .i64 2, .int .i64 0], .agg #[.int .i64 2, .int .i64 0, .bool false, .bool false], .int .i64 80, .int .i64 40] W fun e w' => e = .returned (.int .i64 18) ∧ Below W.heap.size W w'
  a2 : ∀ W, Below w0.heap.size w0 W → Calls Try.prog 15 #[.agg #[.string ⟨#[]⟩, .int .i64 0, .int .i64 0, .int .i64 1, .slice (some ⟨w.heap.size, 0, none⟩) 2 2, .slice (some ⟨w.heap.size, 0, none⟩) 2 2, .slice (some ⟨w.heap.size, 0, none⟩) 2 2, .int .i64 4, .int .i64 1, .int .i64 3, .int .i64 0, .int .i64 0, .int .i64 0, .int .i64 0, .int .i64 0, .int .i64 1, .int .i64 2, .int .i64 0], .agg #[.int .i64 2, .int .i64 0, .bool false, .bool false], .int .i64 10, .int .i64 40] W fun e w' => e = .returned (.int .i64 3) ∧ Below W.heap.size W w'
  a3 : ∀ W, Below w0.heap.size w0 W → Calls Try.prog 15 #[.agg #[.string ⟨#[]⟩, .int .i64 0, .int .i64 0, .int .i64 1, .slice (some ⟨w.heap.size, 0, none⟩) 2 2, .slice (some ⟨w.heap.size, 0, none⟩) 2 2, .slice (some ⟨w.heap.size, 0, none⟩) 2 2, .int .i64 4, .int .i64 1, .int .i64 3, .int .i64 0, .int .i64 0, .int .i64 0, .int .i64 0, .int .i64 0, .int .i64 1, .int .i64 2, .int .i64 0], .agg #[.int .i64 0, .int .i64 0, .bool false, .bool false], .int .i64 80, .int .i64 0] W fun e w' => e = .returned (.int .i64 3) ∧ Below W.heap.size W w'
  m1 : ∀ W, Below w0.heap.size w0 W → Calls Try.prog 13 #[.agg #[.string ⟨#[]⟩, .int .i64 0, .int .i64 0, .int .i64 1, .slice (some ⟨w.heap.size, 0, none⟩) 2 2, .slice (some ⟨w.heap.size, 0, none⟩) 2 2, .slice (some ⟨w.heap.size, 0, none⟩) 2 2, .int .i64 4, .int .i64 1, .int .i64 3, .int .i64 0, .int .i64 0, .int .i64 0, .int .i64 0, .int .i64 0, .int .i64 1, .int .i64 2, .int .i64 0], .agg #[.int .i64 0, .int .i64 3, .bool false, .bool false]] W fun e w' => e = .returned (.agg #[.int .i64 1, .int .i64 3, .bool false, .bool false]) ∧ Below W.heap.size W w'
  m2 : ∀ W, Below w0.heap.size w0 W → Calls Try.prog 13 #[.agg #[.string ⟨#[]⟩, .int .i64 0, .int .i64 0, .int .i64 1, .slice (some ⟨w.heap.size, 0, none⟩) 2 2, .slice (some ⟨w.heap.size, 0, none⟩) 2 2, .slice (some ⟨w.heap.size, 0, none⟩) 2 2, .int .i64 4, .int .i64 1, .int .i64 3, .int .i64 0, .int .i64 0, .int .i64 0, .int .i64 0, .int .i64 0, .int .i64 1, .int .i64 2, .int .i64 0], .agg #[.int .i64 0, .int .i64 3, .bool true, .bool false]] W fun e w' => e = .returned (.agg #[.int .i64 0, .int .i64 3, .bool true, .bool false]) ∧ Below W.heap.size W w'
  d1 : ∀ W, Below w0.heap.size w0 W → Calls Try.prog 17 #[.agg #[.string ⟨#[]⟩, .int .i64 0, .int .i64 0, .int .i64 1, .slice (some ⟨w.heap.size, 0, none⟩) 2 2, .slice (some ⟨w.heap.size, 0, none⟩) 2 2, .slice (some ⟨w.heap.size, 0, none⟩) 2 2, .int .i64 4, .int .i64 1, .int .i64 3, .int .i64 0, .int .i64 0, .int .i64 0, .int .i64 0, .int .i64 0, .int .i64 1, .int .i64 2, .int .i64 0], .agg #[.int .i64 1, .int .i64 2, .int .i64 4, .int .i64 0, .int .i64 0], .bool true] W fun e w' => e = .returned (.agg #[.int .i64 2, .int .i64 3, .int .i64 4, .int .i64 0, .int .i64 0]) ∧ Below W.heap.size W w'
  d2 : ∀ W, Below w0.heap.size w0 W → Calls Try.prog 17 #[.agg #[.string ⟨#[]⟩, .int .i64 0, .int .i64 0, .int .i64 1, .slice (some ⟨w.heap.size, 0, none⟩) 2 2, .slice (some ⟨w.heap.size, 0, none⟩) 2 2, .slice (some ⟨w.heap.size, 0, none⟩) 2 2, .int .i64 4, .int .i64 1, .int .i64 3, .int .i64 0, .int .i64 0, .int .i64 0, .int .i64 0, .int .i64 0, .int .i64 1, .int .i64 2, .int .i64 0], .agg #[.int .i64 1, .int .i64 2, .int .i64 4, .int .i64 0, .int .i64 0], .bool false] W fun e w' => e = .returned (.agg #[.int .i64 0, .int .i64 3, .int .i64 4, .int .i64 0, .int .i64 0]) ∧ Below W.heap.size W w'
  b1 : ∀ W, Below w0.heap.size w0 W → Calls Try.prog 20 #[.agg #[.string ⟨#[]⟩, .int .i64 0, .int .i64 0, .int .i64 1, .slice (some ⟨w.heap.size, 0, none⟩) 2 2, .slice (some ⟨w.heap.size, 0, none⟩) 2 2, .slice (some ⟨w.heap.size, 0, none⟩) 2 2, .int .i64 4, .int .i64 1, .int .i64 3, .int .i64 0, .int .i64 0, .int .i64 0, .int .i64 0, .int .i64 0, .int .i64 1, .int .i64 2, .int .i64 0], .agg #[.int .i64 1, .int .i64 2, .int .i64 4, .int .i64 0, .int .i64 0], .agg #[.int .i64 40, .int .i64 80], .agg #[.int .i64 0, .int .i64 40]] W fun e w' => e = .returned (.agg #[.int .i64 5, .int .i64 23]) ∧ Below W.heap.size W w'
  i1 : ∀ W, Below w0.heap.size w0 W → Calls Try.prog 10 #[.agg #[.string ⟨#[]⟩, .int .i64 0, .int .i64 0, .int .i64 1, .slice (some ⟨w.heap.size, 0, none⟩) 2 2, .slice (some ⟨w.heap.size, 0, none⟩) 2 2, .slice (some ⟨w.heap.size, 0, none⟩) 2 2, .int .i64 4, .int .i64 1, .int .i64 3, .int .i64 0, .int .i64 0, .int .i64 0, .int .i64 0, .int .i64 0, .int .i64 1, .int .i64 2, .int .i64 0], .agg #[.int .i64 0, .int .i64 0, .bool false, .bool false], .int .i64 9] W fun e w' => e = .returned (.agg #[.int .i64 0, .int .i64 4, .bool false, .bool false]) ∧ Below W.heap.size W w'
  f1 : ∀ W, Below w0.heap.size w0 W → Calls Try.prog 12 #[.agg #[.string ⟨#[]⟩, .int .i64 0, .int .i64 0, .int .i64 1, .slice (some ⟨w.heap.size, 0, none⟩) 2 2, .slice (some ⟨w.heap.size, 0, none⟩) 2 2, .slice (some ⟨w.heap.size, 0, none⟩) 2 2, .int .i64 4, .int .i64 1, .int .i64 3, .int .i64 0, .int .i64 0, .int .i64 0, .int .i64 0, .int .i64 0, .int .i64 1, .int .i64 2, .int .i64 0], .agg #[.int .i64 0, .int .i64 0, .bool false, .bool false], .int .i64 0] W fun e w' => e = .returned (.agg #[.int .i64 0, .int .i64 0, .bool true, .bool false]) ∧ Below W.heap.size W w'
theorem small19 (w w0 : World) (h : w0.heap[w.heap.size]? = some (.cells #[.int .i64 0, .int .i64 0, .int .i64 100, .int .i64 50] 63 (0, 0))) : Small19 w w0 := by
  have hL : ∀ W, Below w0.heap.size w0 W → LArg RPoint 2 (.slice (some ⟨w.heap.size, 0, none⟩) 2 2) c0 W := fun W hb => larg_two (blk_below h hb (blk_lt h)) ⟨by decide, by decide⟩ ⟨by decide, by decide⟩ ⟨by decide, by decide⟩ ⟨by decide, by decide⟩
  have lb : LinkB l0 := ⟨⟨by decide, by decide⟩, ⟨by decide, by decide⟩, by decide, by decide⟩
  have i64 : ∀ n : Int, -1000 ≤ n → n ≤ 1000 → I64 n := fun n h1 h2 => ⟨by omega, by omega⟩
  refine ⟨fun W hb => ?_, fun W hb => ?_, fun W hb => ?_, fun W hb => ?_, fun W hb => ?_, fun W hb => ?_, fun W hb => ?_, fun W hb => ?_, fun W hb => ?_, fun W hb => ?_⟩
  · have h := ask_any l0 (.slice (some ⟨w.heap.size, 0, none⟩) 2 2) (.slice (some ⟨w.heap.size, 0, none⟩) 2 2) (.slice (some ⟨w.heap.size, 0, none⟩) 2 2) ⟨2, 0, false, false⟩ 80 40 W lb (i64 _ (by decide) (by decide)) (hL W hb)
    rw [show askN l0 ⟨2, 0, false, false⟩ 80 40 = 18 by decide +kernel] at h
    exact h
  · have h := ask_any l0 (.slice (some ⟨w.heap.size, 0, none⟩) 2 2) (.slice (some ⟨w.heap.size, 0, none⟩) 2 2) (.slice (some ⟨w.heap.size, 0, none⟩) 2 2) ⟨2, 0, false, false⟩ 10 40 W lb (i64 _ (by decide) (by decide)) (hL W hb)
    rw [show askN l0 ⟨2, 0, false, false⟩ 10 40 = 3 by decide +kernel] at h
    exact h
  · have h := ask_any l0 (.slice (some ⟨w.heap.size, 0, none⟩) 2 2) (.slice (some ⟨w.heap.size, 0, none⟩) 2 2) (.slice (some ⟨w.heap.size, 0, none⟩) 2 2) ⟨0, 0, false, false⟩ 80 0 W lb (i64 _ (by decide) (by decide)) (hL W hb)
    rw [show askN l0 ⟨0, 0, false, false⟩ 80 0 = 3 by decide +kernel] at h
    exact h
  · exact move_any l0 (.slice (some ⟨w.heap.size, 0, none⟩) 2 2) (.slice (some ⟨w.heap.size, 0, none⟩) 2 2) (.slice (some ⟨w.heap.size, 0, none⟩) 2 2) ⟨0, 3, false, false⟩ W (i64 _ (by decide) (by decide)) (i64 _ (by decide) (by decide)) (i64 _ (by decide) (by decide))
  · exact move_any l0 (.slice (some ⟨w.heap.size, 0, none⟩) 2 2) (.slice (some ⟨w.heap.size, 0, none⟩) 2 2) (.slice (some ⟨w.heap.size, 0, none⟩) 2 2) ⟨0, 3, true, false⟩ W (i64 _ (by decide) (by decide)) (i64 _ (by decide) (by decide)) (i64 _ (by decide) (by decide))
  · exact drift_sure l0 (.slice (some ⟨w.heap.size, 0, none⟩) 2 2) (.slice (some ⟨w.heap.size, 0, none⟩) 2 2) (.slice (some ⟨w.heap.size, 0, none⟩) 2 2) k0 W (i64 _ (by decide) (by decide)) (i64 _ (by decide) (by decide)) (i64 _ (by decide) (by decide)) (i64 _ (by decide) (by decide))
  · exact drift_wide l0 (.slice (some ⟨w.heap.size, 0, none⟩) 2 2) (.slice (some ⟨w.heap.size, 0, none⟩) 2 2) (.slice (some ⟨w.heap.size, 0, none⟩) 2 2) k0 W (i64 _ (by decide) (by decide)) (i64 _ (by decide) (by decide)) (i64 _ (by decide) (by decide))
  · have h := bounds_any l0 (.slice (some ⟨w.heap.size, 0, none⟩) 2 2) (.slice (some ⟨w.heap.size, 0, none⟩) 2 2) (.slice (some ⟨w.heap.size, 0, none⟩) 2 2) k0 ⟨40, 80⟩ ⟨0, 40⟩ W lb (i64 _ (by decide) (by decide)) (i64 _ (by decide) (by decide)) (hL W hb) (hL W hb)
    rw [show boundsN l0 k0 ⟨40, 80⟩ ⟨0, 40⟩ = ⟨5, 23⟩ from congr (congrArg SpanV.mk (show asksN l0 1 (decide ((1 : Int) ≤ 0)) c0 40 40 = 5 by decide +kernel)) (show asksN l0 2 (decide ((1 : Int) ≤ 0)) c0 80 0 = 23 by decide +kernel)] at h
    exact h
  · exact aim_any l0 (.slice (some ⟨w.heap.size, 0, none⟩) 2 2) (.slice (some ⟨w.heap.size, 0, none⟩) 2 2) (.slice (some ⟨w.heap.size, 0, none⟩) 2 2) ⟨0, 0, false, false⟩ 9 W
  · exact fault_any l0 (.slice (some ⟨w.heap.size, 0, none⟩) 2 2) (.slice (some ⟨w.heap.size, 0, none⟩) 2 2) (.slice (some ⟨w.heap.size, 0, none⟩) 2 2) ⟨0, 0, false, false⟩ 0 (Or.inl rfl) W
set_option maxRecDepth 100000 in
set_option maxHeartbeats 8000000 in
theorem small_any (w : World) : Calls Try.prog 7 #[] w fun e w' => e = .returned (.bool true) ∧ Below w.heap.size w w' := by
  obtain ⟨r0, r1, r2, rb⟩ := three_rowsV (w := w) (A := .cells #[.int .i64 0, .int .i64 0, .int .i64 100, .int .i64 50] 63) (B := .cells #[.string ⟨#[]⟩, .int .i64 0, .int .i64 0, .int .i64 1, .slice (some ⟨w.heap.size, 0, none⟩) 2 2, .slice (some ⟨w.heap.size, 0, none⟩) 2 2, .slice (some ⟨w.heap.size, 0, none⟩) 2 2, .int .i64 4, .int .i64 1, .int .i64 3, .int .i64 0, .int .i64 0, .int .i64 0, .int .i64 0, .int .i64 0, .int .i64 1, .int .i64 2, .int .i64 0] 26) (C := .cells #[.int .i64 1, .int .i64 2, .int .i64 4, .int .i64 0, .int .i64 0] 52)
  generalize hW : ((w.alloc (.cells #[.int .i64 0, .int .i64 0, .int .i64 100, .int .i64 50] 63)).alloc (.cells #[.string ⟨#[]⟩, .int .i64 0, .int .i64 0, .int .i64 1, .slice (some ⟨w.heap.size, 0, none⟩) 2 2, .slice (some ⟨w.heap.size, 0, none⟩) 2 2, .slice (some ⟨w.heap.size, 0, none⟩) 2 2, .int .i64 4, .int .i64 1, .int .i64 3, .int .i64 0, .int .i64 0, .int .i64 0, .int .i64 0, .int .i64 0, .int .i64 1, .int .i64 2, .int .i64 0] 26)).alloc (.cells #[.int .i64 1, .int .i64 2, .int .i64 4, .int .i64 0, .int .i64 0] 52) = w3 at *
  have HF := Lib.hid (small19 w w3 r0)
  have Ch0 := Lib.hid r0
  have Lh0 := Lib.hid r1
  have Kh0 := Lib.hid r2
  have HBw := Lib.hid rb
  have HB0 := Lib.hid (Below.refl w3.heap.size w3)
  have q1 := fun a b s o => field_pos a b s o
  have q2 := fun a b s o => field_tgt a b s o
  have q3 := fun a b s o => field_stk a b s o
  have q4 := field_kpos
  have q5 := eqS
  have HW := Lib.hid hW
  clear hW
  clear r0 r1 r2 rb
  go_enter Try.func7, Try.ntmps7
  go_upto_region 4 with fail
  rw [HW.out]
  clear HW
  go_wp2_with (first | (refine wpList_load_rowW (by rfl) 26 _ rfl _ rfl 26 _ _ _ Lh0.out undLk rfl infoLk ?_) | (refine wpList_load_rowW (by rfl) 52 _ rfl _ rfl 52 _ _ _ Kh0.out undKn rfl infoKn ?_))
  refine (HF.out.a1 _ HB0.out).mono ?_
  rintro e w1 ⟨rfl, hb⟩
  have HB1 := Lib.hid (HB0.out.trans (hb.mono HB0.out.size))
  have Ch1 := Lib.hid (blk_below Ch0.out hb (blk_lt Ch0.out))
  have Lh1 := Lib.hid (blk_below Lh0.out hb (blk_lt Lh0.out))
  have Kh1 := Lib.hid (blk_below Kh0.out hb (blk_lt Kh0.out))
  clear HB0 Ch0 Lh0 Kh0
  clear hb
  go_wp2_with (first | (refine wpList_load_rowW (by rfl) 26 _ rfl _ rfl 26 _ _ _ Lh1.out undLk rfl infoLk ?_) | (refine wpList_load_rowW (by rfl) 52 _ rfl _ rfl 52 _ _ _ Kh1.out undKn rfl infoKn ?_))
  refine (HF.out.a2 _ HB1.out).mono ?_
  rintro e w2 ⟨rfl, hb⟩
  have HB2 := Lib.hid (HB1.out.trans (hb.mono HB1.out.size))
  have Ch2 := Lib.hid (blk_below Ch1.out hb (blk_lt Ch1.out))
  have Lh2 := Lib.hid (blk_below Lh1.out hb (blk_lt Lh1.out))
  have Kh2 := Lib.hid (blk_below Kh1.out hb (blk_lt Kh1.out))
  clear HB1 Ch1 Lh1 Kh1
  clear hb
  go_wp2_with (first | (refine wpList_load_rowW (by rfl) 26 _ rfl _ rfl 26 _ _ _ Lh2.out undLk rfl infoLk ?_) | (refine wpList_load_rowW (by rfl) 52 _ rfl _ rfl 52 _ _ _ Kh2.out undKn rfl infoKn ?_))
  refine (HF.out.a3 _ HB2.out).mono ?_
  rintro e w3 ⟨rfl, hb⟩
  have HB3 := Lib.hid (HB2.out.trans (hb.mono HB2.out.size))
  have Ch3 := Lib.hid (blk_below Ch2.out hb (blk_lt Ch2.out))
  have Lh3 := Lib.hid (blk_below Lh2.out hb (blk_lt Lh2.out))
  have Kh3 := Lib.hid (blk_below Kh2.out hb (blk_lt Kh2.out))
  clear HB2 Ch2 Lh2 Kh2
  clear hb
  go_wp2_with (first | (refine wpList_load_rowW (by rfl) 26 _ rfl _ rfl 26 _ _ _ Lh3.out undLk rfl infoLk ?_) | (refine wpList_load_rowW (by rfl) 52 _ rfl _ rfl 52 _ _ _ Kh3.out undKn rfl infoKn ?_))
  refine (HF.out.m1 _ HB3.out).mono ?_
  rintro e w4 ⟨rfl, hb⟩
  have HB4 := Lib.hid (HB3.out.trans (hb.mono HB3.out.size))
  have Ch4 := Lib.hid (blk_below Ch3.out hb (blk_lt Ch3.out))
  have Lh4 := Lib.hid (blk_below Lh3.out hb (blk_lt Lh3.out))
  have Kh4 := Lib.hid (blk_below Kh3.out hb (blk_lt Kh3.out))
  clear HB3 Ch3 Lh3 Kh3
  clear hb
  go_wp2_with (first | (refine wpList_load_rowW (by rfl) 26 _ rfl _ rfl 26 _ _ _ Lh4.out undLk rfl infoLk ?_) | (refine wpList_load_rowW (by rfl) 52 _ rfl _ rfl 52 _ _ _ Kh4.out undKn rfl infoKn ?_))
  refine (HF.out.m2 _ HB4.out).mono ?_
  rintro e w5 ⟨rfl, hb⟩
  have HB5 := Lib.hid (HB4.out.trans (hb.mono HB4.out.size))
  have Ch5 := Lib.hid (blk_below Ch4.out hb (blk_lt Ch4.out))
  have Lh5 := Lib.hid (blk_below Lh4.out hb (blk_lt Lh4.out))
  have Kh5 := Lib.hid (blk_below Kh4.out hb (blk_lt Kh4.out))
  clear HB4 Ch4 Lh4 Kh4
  clear hb
  go_wp2_with (first | (refine wpList_load_rowW (by rfl) 26 _ rfl _ rfl 26 _ _ _ Lh5.out undLk rfl infoLk ?_) | (refine wpList_load_rowW (by rfl) 52 _ rfl _ rfl 52 _ _ _ Kh5.out undKn rfl infoKn ?_))
  refine (HF.out.d1 _ HB5.out).mono ?_
  rintro e w6 ⟨rfl, hb⟩
  have HB6 := Lib.hid (HB5.out.trans (hb.mono HB5.out.size))
  have Ch6 := Lib.hid (blk_below Ch5.out hb (blk_lt Ch5.out))
  have Lh6 := Lib.hid (blk_below Lh5.out hb (blk_lt Lh5.out))
  have Kh6 := Lib.hid (blk_below Kh5.out hb (blk_lt Kh5.out))
  clear HB5 Ch5 Lh5 Kh5
  clear hb
  go_wp2_with (first | (refine wpList_load_rowW (by rfl) 26 _ rfl _ rfl 26 _ _ _ Lh6.out undLk rfl infoLk ?_) | (refine wpList_load_rowW (by rfl) 52 _ rfl _ rfl 52 _ _ _ Kh6.out undKn rfl infoKn ?_))
  refine (HF.out.d2 _ HB6.out).mono ?_
  rintro e w7 ⟨rfl, hb⟩
  have HB7 := Lib.hid (HB6.out.trans (hb.mono HB6.out.size))
  have Ch7 := Lib.hid (blk_below Ch6.out hb (blk_lt Ch6.out))
  have Lh7 := Lib.hid (blk_below Lh6.out hb (blk_lt Lh6.out))
  have Kh7 := Lib.hid (blk_below Kh6.out hb (blk_lt Kh6.out))
  clear HB6 Ch6 Lh6 Kh6
  clear hb
  go_wp2_with (first | (refine wpList_load_rowW (by rfl) 26 _ rfl _ rfl 26 _ _ _ Lh7.out undLk rfl infoLk ?_) | (refine wpList_load_rowW (by rfl) 52 _ rfl _ rfl 52 _ _ _ Kh7.out undKn rfl infoKn ?_))
  refine (HF.out.b1 _ HB7.out).mono ?_
  rintro e w8 ⟨rfl, hb⟩
  have HB8 := Lib.hid (HB7.out.trans (hb.mono HB7.out.size))
  have Ch8 := Lib.hid (blk_below Ch7.out hb (blk_lt Ch7.out))
  have Lh8 := Lib.hid (blk_below Lh7.out hb (blk_lt Lh7.out))
  have Kh8 := Lib.hid (blk_below Kh7.out hb (blk_lt Kh7.out))
  clear HB7 Ch7 Lh7 Kh7
  clear hb
  go_upto_region 8 with (first | (refine wpList_load_rowW (by rfl) 26 _ rfl _ rfl 26 _ _ _ Lh8.out undLk rfl infoLk ?_) | (refine wpList_load_rowW (by rfl) 52 _ rfl _ rfl 52 _ _ _ Kh8.out undKn rfl infoKn ?_))
  have HB9 := Lib.hid (HB8.out.alloc HB8.out.size (.cells #[.int .i64 5, .int .i64 23] 50))
  have Bh9 := Lib.hid (heap_alloc_new w8 (.cells #[.int .i64 5, .int .i64 23] 50))
  have Ch9 := Lib.hid (blk_below Ch8.out ((Below.refl w8.heap.size w8).alloc (Nat.le_refl _) (.cells #[.int .i64 5, .int .i64 23] 50)) (blk_lt Ch8.out))
  have Lh9 := Lib.hid (blk_below Lh8.out ((Below.refl w8.heap.size w8).alloc (Nat.le_refl _) (.cells #[.int .i64 5, .int .i64 23] 50)) (blk_lt Lh8.out))
  have Kh9 := Lib.hid (blk_below Kh8.out ((Below.refl w8.heap.size w8).alloc (Nat.le_refl _) (.cells #[.int .i64 5, .int .i64 23] 50)) (blk_lt Kh8.out))
  clear HB8 Ch8 Lh8 Kh8
  generalize w8.heap.size = bB at *
  generalize w8.alloc (.cells #[.int .i64 5, .int .i64 23] 50) = w9 at *
  have y0 : w9.cell? ⟨bB, 0, none⟩ = some (.int .i64 5) := (cell_of_row _ _ _ _ _ _ Bh9.out).trans rfl
  have y1 : w9.cell? ⟨bB, 1, none⟩ = some (.int .i64 23) := (cell_of_row _ _ _ _ _ _ Bh9.out).trans rfl
  go_wp2_with (first | (refine wpList_load_rowW (by rfl) 26 _ rfl _ rfl 26 _ _ _ Lh9.out undLk rfl infoLk ?_) | (refine wpList_load_rowW (by rfl) 52 _ rfl _ rfl 52 _ _ _ Kh9.out undKn rfl infoKn ?_))
  refine (HF.out.i1 _ HB9.out).mono ?_
  rintro e w10 ⟨rfl, hb⟩
  have HB10 := Lib.hid (HB9.out.trans (hb.mono HB9.out.size))
  have Ch10 := Lib.hid (blk_below Ch9.out hb (blk_lt Ch9.out))
  have Lh10 := Lib.hid (blk_below Lh9.out hb (blk_lt Lh9.out))
  have Kh10 := Lib.hid (blk_below Kh9.out hb (blk_lt Kh9.out))
  have Bh10 := Lib.hid (blk_below Bh9.out hb (blk_lt Bh9.out))
  clear HB9 Ch9 Lh9 Kh9 Bh9
  clear hb
  go_wp2_with (first | (refine wpList_load_rowW (by rfl) 26 _ rfl _ rfl 26 _ _ _ Lh10.out undLk rfl infoLk ?_) | (refine wpList_load_rowW (by rfl) 52 _ rfl _ rfl 52 _ _ _ Kh10.out undKn rfl infoKn ?_))
  refine (HF.out.f1 _ HB10.out).mono ?_
  rintro e w11 ⟨rfl, hb⟩
  have HB11 := Lib.hid (HB10.out.trans (hb.mono HB10.out.size))
  have Ch11 := Lib.hid (blk_below Ch10.out hb (blk_lt Ch10.out))
  have Lh11 := Lib.hid (blk_below Lh10.out hb (blk_lt Lh10.out))
  have Kh11 := Lib.hid (blk_below Kh10.out hb (blk_lt Kh10.out))
  have Bh11 := Lib.hid (blk_below Bh10.out hb (blk_lt Bh10.out))
  clear HB10 Ch10 Lh10 Kh10 Bh10
  clear hb
  go_wp2_with (first | (refine wpList_load_rowW (by rfl) 26 _ rfl _ rfl 26 _ _ _ Lh11.out undLk rfl infoLk ?_) | (refine wpList_load_rowW (by rfl) 52 _ rfl _ rfl 52 _ _ _ Kh11.out undKn rfl infoKn ?_))
  go_ret
  exact ⟨rfl, HBw.out.trans (HB11.out.mono HBw.out.size)⟩
end Go.Proofs.Ytkoobkcmmfdlhaa
