/- exact.Clamp, exact.Add, span.Add and rain.Sum. -/
import Derived.Test.YtleiiedacachjaaKCov
import Derived.Test.YtleiiedacachjaaKRight
namespace Go.Proofs.Ytleiiedacachjaa
open Go.RowKit
def clampN (n lo hi : Int) : Int := if n < lo then lo else if hi < n then hi else n
theorem clampN_in {n lo hi : Int} (h : lo ≤ hi) : lo ≤ clampN n lo hi ∧ clampN n lo hi ≤ hi := by
  unfold clampN
  split
  · exact ⟨Int.le_refl _, h⟩
  · split
    · exact ⟨h, Int.le_refl _⟩
    · exact ⟨by omega, by omega⟩
theorem ret_intK {k : IntKind} {a b : Int} (h : a = b) : Ending.returned (.int k a) = .returned (.int k b) := by rw [h]
set_option maxRecDepth 100000 in
set_option maxHeartbeats 1000000 in
theorem clamp_any (n lo hi : Int) (w : World) : Calls Try.prog 18 #[.int .i64 n, .int .i64 lo, .int .i64 hi] w fun e w' => e = .returned (.int .i64 (clampN n lo hi)) ∧ w = w' := by
  by_cases h1 : n < lo
  · have HE : Hid (clampN n lo hi = lo) := Lib.hid (by unfold clampN; rw [if_pos h1])
    go_enter Try.func18, Try.ntmps18
    go_wp2
    go_ret
    exact ⟨ret_intK HE.out.symm, rfl⟩
  · by_cases h2 : hi < n
    · have HE : Hid (clampN n lo hi = hi) := Lib.hid (by unfold clampN; rw [if_neg h1, if_pos h2])
      go_enter Try.func18, Try.ntmps18
      go_wp2
      go_ret
      exact ⟨ret_intK HE.out.symm, rfl⟩
    · have HE : Hid (clampN n lo hi = n) := Lib.hid (by unfold clampN; rw [if_neg h1, if_neg h2])
      go_enter Try.func18, Try.ntmps18
      go_wp2
      go_ret
      exact ⟨ret_intK HE.out.symm, rfl⟩
set_option maxRecDepth 100000 in
set_option maxHeartbeats 1000000 in
/-- the sum of two numbers from 0 on, where it is an int -/
theorem addp_any (a b : Int) (w : World) (ha : 0 ≤ a) (hb : 0 ≤ b) (hs : a + b ≤ 9223372036854775807) : Calls Try.prog 51 #[.int .i64 a, .int .i64 b] w fun e w' => e = .returned (.int .i64 (a + b)) ∧ w = w' := by
  have t1 : ¬ b < 0 := by omega
  have F1 : IntKind.i64.wrap (a + b) = a + b := IntWalk.i64_in _ (by omega)
  by_cases h1 : 0 < b
  · have h2 : ¬ 9223372036854775807 - b < a := by omega
    have F2 : IntKind.i64.wrap (9223372036854775807 - b) = 9223372036854775807 - b := IntWalk.i64_in _ (by omega)
    go_enter Try.func51, Try.ntmps51
    go_wp2
    go_ret
    exact ⟨rfl, rfl⟩
  · go_enter Try.func51, Try.ntmps51
    go_wp2
    go_ret
    exact ⟨rfl, rfl⟩
def RetS (s : SpanV) (w : World) (e : Ending) (w' : World) : Prop := e = .returned (.agg #[.int .i64 s.lo, .int .i64 s.hi]) ∧ Below w.heap.size w w'
theorem retS_mk {s : SpanV} {a b : Int} {w w' : World} (h : s = ⟨a, b⟩) (hb : Below w.heap.size w w') : RetS s w (.returned (.agg #[.int .i64 a, .int .i64 b])) w' := by subst h; exact ⟨rfl, hb⟩
theorem three_rowsK {w : World} {A B C : Obj} : (((w.alloc A).alloc B).alloc C).heap[w.heap.size]? = some A ∧ (((w.alloc A).alloc B).alloc C).heap[w.heap.size + 1]? = some B ∧ (((w.alloc A).alloc B).alloc C).heap[w.heap.size + 1 + 1]? = some C ∧ Below w.heap.size w (((w.alloc A).alloc B).alloc C) := by
  obtain ⟨h1, h2, h3⟩ := two_rowsK (w := w) (A := A) (B := B)
  have s2 : ((w.alloc A).alloc B).heap.size = w.heap.size + 1 + 1 := by simp
  have h4 := heap_alloc_new ((w.alloc A).alloc B) C
  rw [s2] at h4
  have hb : Below ((w.alloc A).alloc B).heap.size ((w.alloc A).alloc B) (((w.alloc A).alloc B).alloc C) := (Below.refl _ _).alloc (Nat.le_refl _) _
  exact ⟨blk_below h1 hb (blk_lt h1), blk_below h2 hb (blk_lt h2), h4, h3.trans (hb.mono h3.size)⟩
set_option maxRecDepth 100000 in
set_option maxHeartbeats 4000000 in
theorem sadd_any (a b : SpanV) (w : World) (hN : (0 ≤ a.lo ∧ 0 ≤ a.hi) ∧ 0 ≤ b.lo ∧ 0 ≤ b.hi) (hM : a.lo + b.lo ≤ 9223372036854775807 ∧ a.hi + b.hi ≤ 9223372036854775807) :
    Calls Try.prog 40 #[.agg #[.int .i64 a.lo, .int .i64 a.hi], .agg #[.int .i64 b.lo, .int .i64 b.hi]] w (RetS ⟨a.lo + b.lo, a.hi + b.hi⟩ w) := by
  obtain ⟨r0, r1, r2, rb⟩ := three_rowsK (w := w) (A := .cells #[.int .i64 a.lo, .int .i64 a.hi] 54) (B := .cells #[.int .i64 b.lo, .int .i64 b.hi] 54) (C := .cells #[.int .i64 0, .int .i64 0] 54)
  go_enter Try.func40, Try.ntmps40
  go_upto_region 1 with fail
  generalize ((w.alloc (.cells #[.int .i64 a.lo, .int .i64 a.hi] 54)).alloc (.cells #[.int .i64 b.lo, .int .i64 b.hi] 54)).alloc (.cells #[.int .i64 0, .int .i64 0] 54) = w0 at *
  refine wp_region_noPanic ?_
  refine wp_region_held_drew (S := fun c => c.heap[w.heap.size]? = some (.cells #[.int .i64 a.lo, .int .i64 a.hi] 54 (0, 0)) ∧ c.heap[w.heap.size + 1]? = some (.cells #[.int .i64 b.lo, .int .i64 b.hi] 54 (0, 0)) ∧ Below w.heap.size w c) (by kernel_rfl) ⟨r0, r1, rb.drew⟩ (fun hHeld => ?_)
  refine' wpAnyH_take (i := 0) (v := _) (by simp only [List.getElem?_toArray, List.getElem?_cons_zero]; exact rfl) (by kernel_rfl) (by kernel_rfl) (by kernel_rfl) (fun _ _ _ h => h) (Or.inl ⟨by rfl, ?y0x3⟩) hHeld ?r0x3
  case y0x3 => (intro w hSw; (try dsimp only at hSw); go_simp; try with_reducible rfl)
  try simp only [Act.put, List.setIfInBounds_toArray, List.set_cons_zero, List.set_cons_succ]
  refine' wpAnyH_take (i := 1) (v := _) (by simp only [List.getElem?_toArray, List.getElem?_cons_succ, List.getElem?_cons_zero]; exact rfl) (by kernel_rfl) (by kernel_rfl) (by kernel_rfl) (fun _ _ _ h => h) (Or.inl ⟨by rfl, ?y1x4⟩) hHeld ?r1x4
  case y1x4 => (intro wz hSw; have e4 := rowN hSw.1 0 (.int .i64 a.lo) rfl; go_simp; try with_reducible rfl)
  try simp only [Act.put, List.setIfInBounds_toArray, List.set_cons_zero, List.set_cons_succ]
  refine' wpAnyH_take (i := 2) (v := _) (by simp only [List.getElem?_toArray, List.getElem?_cons_succ, List.getElem?_cons_zero]; exact rfl) (by kernel_rfl) (by kernel_rfl) (by kernel_rfl) (fun _ _ _ h => h) (Or.inl ⟨by rfl, ?y2x5⟩) hHeld ?r2x5
  case y2x5 => (intro w hSw; (try dsimp only at hSw); go_simp; try with_reducible rfl)
  try simp only [Act.put, List.setIfInBounds_toArray, List.set_cons_zero, List.set_cons_succ]
  refine' wpAnyH_take (i := 3) (v := _) (by simp only [List.getElem?_toArray, List.getElem?_cons_succ, List.getElem?_cons_zero]; exact rfl) (by kernel_rfl) (by kernel_rfl) (by kernel_rfl) (fun _ _ _ h => h) (Or.inl ⟨by rfl, ?y3x6⟩) hHeld ?r3x6
  case y3x6 => (intro wz hSw; have e4 := rowN hSw.2.1 0 (.int .i64 b.lo) rfl; go_simp; try with_reducible rfl)
  try simp only [Act.put, List.setIfInBounds_toArray, List.set_cons_zero, List.set_cons_succ]
  refine' wpAnyH_take (i := 5) (v := _) (by simp only [List.getElem?_toArray, List.getElem?_cons_succ, List.getElem?_cons_zero]; exact rfl) (by kernel_rfl) (by kernel_rfl) (by kernel_rfl) (fun _ _ _ h => h) (Or.inl ⟨by rfl, ?y5x7⟩) hHeld ?r5x7
  case y5x7 => (intro w hSw; (try dsimp only at hSw); go_simp; try with_reducible rfl)
  try simp only [Act.put, List.setIfInBounds_toArray, List.set_cons_zero, List.set_cons_succ]
  refine' wpAnyH_take (i := 6) (v := _) (by simp only [List.getElem?_toArray, List.getElem?_cons_succ, List.getElem?_cons_zero]; exact rfl) (by kernel_rfl) (by kernel_rfl) (by kernel_rfl) (fun _ _ _ h => h) (Or.inl ⟨by rfl, ?y6x8⟩) hHeld ?r6x8
  case y6x8 => (intro wz hSw; have e4 := rowN hSw.1 1 (.int .i64 a.hi) rfl; go_simp; try with_reducible rfl)
  try simp only [Act.put, List.setIfInBounds_toArray, List.set_cons_zero, List.set_cons_succ]
  refine' wpAnyH_take (i := 7) (v := _) (by simp only [List.getElem?_toArray, List.getElem?_cons_succ, List.getElem?_cons_zero]; exact rfl) (by kernel_rfl) (by kernel_rfl) (by kernel_rfl) (fun _ _ _ h => h) (Or.inl ⟨by rfl, ?y7x9⟩) hHeld ?r7x9
  case y7x9 => (intro w hSw; (try dsimp only at hSw); go_simp; try with_reducible rfl)
  try simp only [Act.put, List.setIfInBounds_toArray, List.set_cons_zero, List.set_cons_succ]
  refine' wpAnyH_take (i := 8) (v := _) (by simp only [List.getElem?_toArray, List.getElem?_cons_succ, List.getElem?_cons_zero]; exact rfl) (by kernel_rfl) (by kernel_rfl) (by kernel_rfl) (fun _ _ _ h => h) (Or.inl ⟨by rfl, ?y8x10⟩) hHeld ?r8x10
  case y8x10 => (intro wz hSw; have e4 := rowN hSw.2.1 1 (.int .i64 b.hi) rfl; go_simp; try with_reducible rfl)
  try simp only [Act.put, List.setIfInBounds_toArray, List.set_cons_zero, List.set_cons_succ]
  refine wpAnyH_ready (rs := [4]) (by kernel_rfl) (by simp) ?_
  refine AllReadyH.cons (by simp only [List.getElem?_toArray, List.getElem?_cons_succ, List.getElem?_cons_zero]; exact rfl) (fun K hK => ?_) AllReadyH.nil
  go_simp
  refine (addp_any a.lo b.lo _ hN.1.1 hN.2.1 hM.1).mono ?_
  rintro e w' ⟨rfl, rfl⟩
  refine hK.out _ _ hHeld (fun hHeld => ?_)
  clear hK K
  try simp only [Act.put, List.setIfInBounds_toArray, List.set_cons_zero, List.set_cons_succ]
  refine wpAnyH_ready (rs := [9]) (by kernel_rfl) (by simp) ?_
  refine AllReadyH.cons (by simp only [List.getElem?_toArray, List.getElem?_cons_succ, List.getElem?_cons_zero]; exact rfl) (fun K hK => ?_) AllReadyH.nil
  go_simp
  refine (addp_any a.hi b.hi _ hN.1.2 hN.2.2 hM.2).mono ?_
  rintro e w' ⟨rfl, rfl⟩
  refine hK.out _ _ hHeld (fun hHeld => ?_)
  clear hK K
  try simp only [Act.put, List.setIfInBounds_toArray, List.set_cons_zero, List.set_cons_succ]
  refine' wpAnyH_take (i := 10) (v := _) (by simp only [List.getElem?_toArray, List.getElem?_cons_succ, List.getElem?_cons_zero]; exact rfl) (by kernel_rfl) (by kernel_rfl) (by kernel_rfl) (fun _ _ _ h => h) (Or.inl ⟨by rfl, ?y10x1⟩) hHeld ?r10x1
  case y10x1 => (intro w hSw; (try dsimp only at hSw); go_simp; try with_reducible rfl)
  try simp only [Act.put, List.setIfInBounds_toArray, List.set_cons_zero, List.set_cons_succ]
  refine wpAnyH_ready (rs := [11]) (by kernel_rfl) (by simp) ?_
  refine AllReadyH.cons (by simp only [List.getElem?_toArray, List.getElem?_cons_succ, List.getElem?_cons_zero]; exact rfl) (fun K hK => ?_) AllReadyH.nil
  rw [if_pos (by rfl)]
  refine wp_store_row 54 _ _ rfl (w.heap.size + 1 + 1) #[.int .i64 (a.lo + b.lo), .int .i64 (a.hi + b.hi)] rfl rfl 54 #[.int .i64 0, .int .i64 0] r2 infoSp rfl (by simp [Value.oneCell']) ?_
  have hH := setRow_heap w0.drew _ _ #[.int .i64 (a.lo + b.lo), .int .i64 (a.hi + b.hi)] _ _ r2
  refine hK.out _ _ ⟨(setRow_other _ _ _ _ (by omega)).trans hHeld.1, (setRow_other _ _ _ _ (by omega)).trans hHeld.2.1, below_setRow hHeld.2.2 (by omega) _⟩ (fun hHeld => ?_)
  clear hK K
  try simp only [Act.put]
  refine wpAnyH_done (by kernel_rfl) ?_ _
  refine NoPanic.normal ?_
  go_wp2_with fail
  exact bodyPost_ret (v := .agg #[.int .i64 (a.lo + b.lo), .int .i64 (a.hi + b.hi)]) (results_cell_row rfl _ _ _ 54 _ (0, 0) _ rfl hH undSp rfl infoSp) rfl (retS_mk rfl hHeld.2.2)

def sumLo (l : List SpanV) : Int := (l.map (·.lo)).sum
def sumHi (l : List SpanV) : Int := (l.map (·.hi)).sum
theorem sum_step {l : List SpanV} {k : Nat} {s : SpanV} (h : l[k]? = some s) : sumLo (l.take (k + 1)) = sumLo (l.take k) + s.lo ∧ sumHi (l.take (k + 1)) = sumHi (l.take k) + s.hi := by
  unfold sumLo sumHi
  rw [List.take_add_one, h, Option.toList_some, List.map_append, List.map_append, List.sum_append, List.sum_append]
  simp
def OkL (l : List SpanV) : Prop := ∀ s ∈ l, okSp s
theorem sum_bd {l : List SpanV} (h : OkL l) (k : Nat) : 0 ≤ sumLo (l.take k) ∧ sumLo (l.take k) ≤ sumHi (l.take k) ∧ sumHi (l.take k) ≤ (k : Int) * 1125899906842624 := by
  induction k with
  | zero => simp [sumLo, sumHi]
  | succ k ih =>
    cases hk : l[k]? with
    | none =>
      have : l.take (k + 1) = l.take k := by rw [List.take_of_length_le (by have := List.getElem?_eq_none_iff.1 hk; omega), List.take_of_length_le (List.getElem?_eq_none_iff.1 hk)]
      rw [this]
      push_cast
      omega
    | some s =>
      obtain ⟨e1, e2⟩ := sum_step hk
      obtain ⟨o1, o2, o3⟩ := h s (List.mem_of_getElem? hk)
      rw [e1, e2]
      push_cast
      omega
set_option maxRecDepth 100000 in
set_option maxHeartbeats 4000000 in
theorem sum_any (l : List SpanV) (b c : Nat) (w : World) (hrow : w.heap[b]? = some (.cells (spV l).toArray 54 (0, 0))) (hl : l.length ≤ 64) (hO : OkL l) :
    Calls Try.prog 21 #[.slice (some ⟨b, 0, none⟩) l.length c] w (RetS ⟨sumLo l, sumHi l⟩ w) := by
  have HRow := Lib.hid hrow
  have HO := Lib.hid hO
  obtain ⟨r0, r1, rb⟩ := two_rowsK (w := w) (A := .cells #[.int .i64 0, .int .i64 0] 54) (B := .cells #[.int .i64 0, .int .i64 0] 54)
  clear hrow hO
  go_enter Try.func21, Try.ntmps21
  go_upto_region 2 with fail
  generalize (w.alloc (.cells #[.int .i64 0, .int .i64 0] 54)).alloc (.cells #[.int .i64 0, .int .i64 0] 54) = w0 at *
  have HZ := Lib.hid r0
  have HS := Lib.hid r1
  have HB0 := Lib.hid rb
  clear r0 r1 rb
  go_wp2_with fail
  go_loopw [9] (fun iv wr => ∃ k : Nat, k ≤ l.length ∧ iv = .int .i64 k ∧ wr.heap[w.heap.size + 1]? = some (.cells #[.int .i64 (sumLo (l.take k)), .int .i64 (sumHi (l.take k))] 54 (0, 0)) ∧ wr.heap[w.heap.size]? = some (.cells #[.int .i64 0, .int .i64 0] 54 (0, 0)) ∧ Below w.heap.size w wr) (fun iv _ => l.length - (intOf iv).toNat)
  case atStart => exact ⟨0, Nat.zero_le _, rfl, HS.out, HZ.out, HB0.out⟩
  case round =>
    obtain ⟨k, hk, rfl, hs, hz, hB⟩ := hrel
    have HSk := Lib.hid hs
    have HZk := Lib.hid hz
    have HB := Lib.hid hB
    clear hs hz hB HZ HS HB0
    by_cases hlt : k < l.length
    · have hlt' : (k : Int) < (l.length : Int) := by omega
      obtain ⟨s, hss⟩ : ∃ s, l[k]? = some s := ⟨_, List.getElem?_eq_getElem hlt⟩
      have HSS := Lib.hid hss
      have HRG := Lib.hid (range_sp (blk_below HRow.out HB.out (blk_lt HRow.out)) hss)
      have hal := (Below.refl wr.heap.size wr).alloc (Nat.le_refl _) (.cells #[.int .i64 s.lo, .int .i64 s.hi] 54)
      have HN := Lib.hid (heap_alloc_new wr (.cells #[.int .i64 s.lo, .int .i64 s.hi] 54))
      have HS3 := Lib.hid (blk_below HSk.out hal (blk_lt HSk.out))
      have HZ3 := Lib.hid (blk_below HZk.out hal (blk_lt HZk.out))
      have HB3 := Lib.hid (HB.out.trans (hal.mono HB.out.size))
      clear hss hal HSk HZk HB
      go_upto_region 5 with (refine wpList_load_range (by first | (go_simp; done) | rfl) 54 _ rfl _ _ rfl _ _ HRG.out undSp rfl infoSp ?_)
      clear HRG
      generalize wr.alloc (.cells #[.int .i64 s.lo, .int .i64 s.hi] 54) = w3 at *
      generalize wr.heap.size = bs at *
      have hbd := sum_bd HO.out k
      obtain ⟨o1, o2, o3⟩ := HO.out s (List.mem_of_getElem? HSS.out)
      go_wp2_with (first | (refine wpList_load_rowW (by first | (go_simp; done) | rfl) 54 _ rfl _ rfl 54 _ _ _ HS3.out undSp rfl infoSp ?_) | (refine wpList_load_rowW (by first | (go_simp; done) | rfl) 54 _ rfl _ rfl 54 _ _ _ HN.out undSp rfl infoSp ?_))
      refine (sadd_any ⟨sumLo (l.take k), sumHi (l.take k)⟩ s _ ⟨⟨by dsimp only; omega, by dsimp only; omega⟩, by omega, by omega⟩ ⟨by dsimp only; omega, by dsimp only; omega⟩).mono ?_
      rintro e w4 ⟨rfl, hb⟩
      have HS4 := Lib.hid (blk_below HS3.out hb (blk_lt HS3.out))
      have HZ4 := Lib.hid (blk_below HZ3.out hb (blk_lt HZ3.out))
      have HB4 := Lib.hid (HB3.out.trans (hb.mono HB3.out.size))
      have HST := Lib.hid (sum_step HSS.out)
      clear hb HS3 HZ3 HB3 HN hbd o1 o2 o3
      go_wp2_with (refine wpList_store_row rfl 54 _ _ rfl (w.heap.size + 1) #[.int .i64 (sumLo (l.take k) + s.lo), .int .i64 (sumHi (l.take k) + s.hi)] rfl rfl 54 _ HS4.out infoSp rfl (by simp [Value.oneCell']) ?_)
      go_roundw
      case rel => exact ⟨k + 1, by omega, by go_num, by rw [HST.out.1, HST.out.2]; exact setRow_heap _ _ _ _ _ _ HS4.out, (setRow_other _ _ _ _ (by omega)).trans HZ4.out, below_setRow HB4.out (by omega) _⟩
      case measure => simp [intOf]; omega
    · obtain rfl : k = l.length := by omega
      rw [List.take_length] at HSk
      clear hlt hk
      go_wp2_with (first | (refine wpList_load_rowW (by first | (go_simp; done) | rfl) 54 _ rfl _ rfl 54 _ _ _ HSk.out undSp rfl infoSp ?_) | (refine wpList_store_row rfl 54 _ _ rfl w.heap.size #[.int .i64 (sumLo l), .int .i64 (sumHi l)] rfl rfl 54 _ HZk.out infoSp rfl (by simp [Value.oneCell']) ?_))
      exact bodyPost_ret (v := .agg #[.int .i64 (sumLo l), .int .i64 (sumHi l)]) (results_cell_row rfl _ _ _ 54 _ (0, 0) _ rfl (setRow_heap _ _ _ _ _ _ HZk.out) undSp rfl infoSp) rfl (retS_mk rfl (below_setRow HB.out (Nat.le_refl _) _))
end Go.Proofs.Ytleiiedacachjaa
