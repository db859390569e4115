/- Texts merged: ASpan DLaw AMap -/
import Derived.Test.YtjbjpkhibcnenaaGreatDoorLoad
import Derived.Maps.Views
import Derived.Lib.SlKeysI
import Derived.Maps.OwnSet
import Derived.Maps.OwnOps
import Derived.Below
import Derived.WalkKit
import Derived.Test.YtjbjpkhibcnenaaGreatDoorNDiv
import Derived.Test.YtjbjpkhibcnenaaGreatDoorProg
/- exact.Add, span.Right, span.Of, span.Add, audit.within, audit.mouth, audit.net. -/
namespace Go.Proofs.YtjbjpkhibcnenaaGreatDoor
open Go.RowKit
theorem ret_int {k : IntKind} {a b : Int} (h : a = b) : Ending.returned (.int k a) = .returned (.int k b) := by rw [h]
theorem ret_bool {a b : Bool} (h : a = b) : Ending.returned (.bool a) = .returned (.bool b) := by rw [h]
theorem two_rows {w : World} {A B : Obj} : ((w.alloc A).alloc B).heap[w.heap.size]? = some A ∧ ((w.alloc A).alloc B).heap[w.heap.size + 1]? = some B ∧ Below w.heap.size w ((w.alloc A).alloc B) := by
  have s1 : (w.alloc A).heap.size = w.heap.size + 1 := by simp
  have h2 := heap_alloc_new (w.alloc A) B
  rw [s1] at h2
  have h1 := heap_alloc_new w A
  have hb : Below (w.alloc A).heap.size (w.alloc A) ((w.alloc A).alloc B) := (Below.refl _ _).alloc (Nat.le_refl _) _
  exact ⟨blk_below h1 hb (blk_lt h1), h2, ((Below.refl _ _).alloc (Nat.le_refl _) A).trans (hb.mono (by rw [s1]; omega))⟩
def RetB (b : Bool) (w : World) (e : Ending) (w' : World) : Prop := e = .returned (.bool b) ∧ Below w.heap.size w w'
theorem retB_mk {b c : Bool} {w w' : World} (h : b = c) (hb : Below w.heap.size w w') : RetB b w (.returned (.bool c)) w' := by subst h; exact ⟨rfl, hb⟩
def RetS (s : SpanV) (w : World) (e : Ending) (w' : World) : Prop := e = .returned (.agg #[.int .i64 s.lo, .int .i64 s.hi]) ∧ Below w.heap.size w w'
theorem retS_mk {s : SpanV} {a b : Int} {w w' : World} (h : s = ⟨a, b⟩) (hb : Below w.heap.size w w') : RetS s w (.returned (.agg #[.int .i64 a, .int .i64 b])) w' := by subst h; exact ⟨rfl, hb⟩
theorem undSp : Tryz.prog.underlying 53 = some (.struct (Tryz.prog.fieldsOf 53)) := by kernel_rfl
theorem infoSp : (Tryz.prog.info? 53).map (·.size) = some 2 := by kernel_rfl
theorem undPb : Tryz.prog.underlying 55 = some (.struct (Tryz.prog.fieldsOf 55)) := by kernel_rfl
theorem infoPb : (Tryz.prog.info? 55).map (·.size) = some 4 := by kernel_rfl
theorem undCm : Tryz.prog.underlying 63 = some (.struct (Tryz.prog.fieldsOf 63)) := by kernel_rfl
theorem infoCm : (Tryz.prog.info? 63).map (·.size) = some 8 := by kernel_rfl
theorem undPm : Tryz.prog.underlying 38 = some (.struct (Tryz.prog.fieldsOf 38)) := by kernel_rfl
theorem infoPm : (Tryz.prog.info? 38).map (·.size) = some 6 := by kernel_rfl
theorem undBl : Tryz.prog.underlying 40 = some (.struct (Tryz.prog.fieldsOf 40)) := by kernel_rfl
theorem infoBl : (Tryz.prog.info? 40).map (·.size) = some 9 := by kernel_rfl
set_option maxRecDepth 100000 in
set_option maxHeartbeats 1000000 in
theorem add_any (a b : Int) (w : World) (ha : I64 a) (hb : I64 b) : Calls Tryz.prog 98 #[.int .i64 a, .int .i64 b] w fun e w' => e = .returned (.int .i64 (addS a b)) ∧ w = w' := by
  unfold I64 at ha hb
  by_cases h1 : 0 < b
  · by_cases h2 : 9223372036854775807 - b < a
    · have HE : Hid (addS a b = 9223372036854775807) := Lib.hid (by unfold addS; rw [if_pos (by omega)])
      go_enter Tryz.func98, Tryz.ntmps98
      go_wp2
      go_ret
      exact ⟨ret_int HE.out.symm, rfl⟩
    · have HE : Hid (addS a b = a + b) := Lib.hid (addS_in (by omega) (by omega))
      have t1 : ¬ b < 0 := by omega
      go_enter Tryz.func98, Tryz.ntmps98
      go_wp2
      go_ret
      exact ⟨ret_int HE.out.symm, rfl⟩
  · by_cases h2 : b < 0
    · by_cases h3 : a < -9223372036854775808 - b
      · have HE : Hid (addS a b = -9223372036854775808) := Lib.hid (by unfold addS; rw [if_neg (by omega), if_pos (by omega)])
        go_enter Tryz.func98, Tryz.ntmps98
        go_wp2
        go_ret
        exact ⟨ret_int HE.out.symm, rfl⟩
      · have HE : Hid (addS a b = a + b) := Lib.hid (addS_in (by omega) (by omega))
        go_enter Tryz.func98, Tryz.ntmps98
        go_wp2
        go_ret
        exact ⟨ret_int HE.out.symm, rfl⟩
    · have HE : Hid (addS a b = a + b) := Lib.hid (addS_in (by omega) (by omega))
      go_enter Tryz.func98, Tryz.ntmps98
      go_wp2
      go_ret
      exact ⟨ret_int HE.out.symm, rfl⟩
set_option maxRecDepth 100000 in
set_option maxHeartbeats 4000000 in
theorem addSp_any (a b : SpanV) (w : World) (ha : SpI a) (hb : SpI b) :
    Calls Tryz.prog 78 #[.agg #[.int .i64 a.lo, .int .i64 a.hi], .agg #[.int .i64 b.lo, .int .i64 b.hi]] w (RetS (addSp a b) w) := by
  obtain ⟨r0, r1, r2, rb⟩ := three_rows (w := w) (A := .cells #[.int .i64 a.lo, .int .i64 a.hi] 53) (B := .cells #[.int .i64 b.lo, .int .i64 b.hi] 53) (C := .cells #[.int .i64 0, .int .i64 0] 53)
  go_enter Tryz.func78, Tryz.ntmps78
  go_upto_region 1 with fail
  generalize ((w.alloc (.cells #[.int .i64 a.lo, .int .i64 a.hi] 53)).alloc (.cells #[.int .i64 b.lo, .int .i64 b.hi] 53)).alloc (.cells #[.int .i64 0, .int .i64 0] 53) = w0 at *
  refine wp_region_noPanic ?_
  refine wp_region_held_drew (S := fun c => c.heap[w.heap.size]? = some (.cells #[.int .i64 a.lo, .int .i64 a.hi] 53 (0, 0)) ∧ c.heap[w.heap.size + 1]? = some (.cells #[.int .i64 b.lo, .int .i64 b.hi] 53 (0, 0)) ∧ Below w.heap.size w c) (by kernel_rfl) ⟨r0, r1, rb.drew⟩ (fun hHeld => ?_)
  refine' wpAnyH_take (i := 0) (v := _) (by simp only [List.getElem?_toArray, List.getElem?_cons_zero]; exact rfl) (by kernel_rfl) (by kernel_rfl) (by kernel_rfl) (fun _ _ _ h => h) (Or.inl ⟨by rfl, ?y0x3⟩) hHeld ?r0x3
  case y0x3 => (intro w hSw; (try dsimp only at hSw); go_simp; try with_reducible rfl)
  try simp only [Act.put, List.setIfInBounds_toArray, List.set_cons_zero, List.set_cons_succ]
  refine' wpAnyH_take (i := 1) (v := _) (by simp only [List.getElem?_toArray, List.getElem?_cons_succ, List.getElem?_cons_zero]; exact rfl) (by kernel_rfl) (by kernel_rfl) (by kernel_rfl) (fun _ _ _ h => h) (Or.inl ⟨by rfl, ?y1x4⟩) hHeld ?r1x4
  case y1x4 => (intro wz hSw; have e4 := rowN hSw.1 0 (.int .i64 a.lo) rfl; go_simp; try with_reducible rfl)
  try simp only [Act.put, List.setIfInBounds_toArray, List.set_cons_zero, List.set_cons_succ]
  refine' wpAnyH_take (i := 2) (v := _) (by simp only [List.getElem?_toArray, List.getElem?_cons_succ, List.getElem?_cons_zero]; exact rfl) (by kernel_rfl) (by kernel_rfl) (by kernel_rfl) (fun _ _ _ h => h) (Or.inl ⟨by rfl, ?y2x5⟩) hHeld ?r2x5
  case y2x5 => (intro w hSw; (try dsimp only at hSw); go_simp; try with_reducible rfl)
  try simp only [Act.put, List.setIfInBounds_toArray, List.set_cons_zero, List.set_cons_succ]
  refine' wpAnyH_take (i := 3) (v := _) (by simp only [List.getElem?_toArray, List.getElem?_cons_succ, List.getElem?_cons_zero]; exact rfl) (by kernel_rfl) (by kernel_rfl) (by kernel_rfl) (fun _ _ _ h => h) (Or.inl ⟨by rfl, ?y3x6⟩) hHeld ?r3x6
  case y3x6 => (intro wz hSw; have e4 := rowN hSw.2.1 0 (.int .i64 b.lo) rfl; go_simp; try with_reducible rfl)
  try simp only [Act.put, List.setIfInBounds_toArray, List.set_cons_zero, List.set_cons_succ]
  refine' wpAnyH_take (i := 5) (v := _) (by simp only [List.getElem?_toArray, List.getElem?_cons_succ, List.getElem?_cons_zero]; exact rfl) (by kernel_rfl) (by kernel_rfl) (by kernel_rfl) (fun _ _ _ h => h) (Or.inl ⟨by rfl, ?y5x7⟩) hHeld ?r5x7
  case y5x7 => (intro w hSw; (try dsimp only at hSw); go_simp; try with_reducible rfl)
  try simp only [Act.put, List.setIfInBounds_toArray, List.set_cons_zero, List.set_cons_succ]
  refine' wpAnyH_take (i := 6) (v := _) (by simp only [List.getElem?_toArray, List.getElem?_cons_succ, List.getElem?_cons_zero]; exact rfl) (by kernel_rfl) (by kernel_rfl) (by kernel_rfl) (fun _ _ _ h => h) (Or.inl ⟨by rfl, ?y6x8⟩) hHeld ?r6x8
  case y6x8 => (intro wz hSw; have e4 := rowN hSw.1 1 (.int .i64 a.hi) rfl; go_simp; try with_reducible rfl)
  try simp only [Act.put, List.setIfInBounds_toArray, List.set_cons_zero, List.set_cons_succ]
  refine' wpAnyH_take (i := 7) (v := _) (by simp only [List.getElem?_toArray, List.getElem?_cons_succ, List.getElem?_cons_zero]; exact rfl) (by kernel_rfl) (by kernel_rfl) (by kernel_rfl) (fun _ _ _ h => h) (Or.inl ⟨by rfl, ?y7x9⟩) hHeld ?r7x9
  case y7x9 => (intro w hSw; (try dsimp only at hSw); go_simp; try with_reducible rfl)
  try simp only [Act.put, List.setIfInBounds_toArray, List.set_cons_zero, List.set_cons_succ]
  refine' wpAnyH_take (i := 8) (v := _) (by simp only [List.getElem?_toArray, List.getElem?_cons_succ, List.getElem?_cons_zero]; exact rfl) (by kernel_rfl) (by kernel_rfl) (by kernel_rfl) (fun _ _ _ h => h) (Or.inl ⟨by rfl, ?y8x10⟩) hHeld ?r8x10
  case y8x10 => (intro wz hSw; have e4 := rowN hSw.2.1 1 (.int .i64 b.hi) rfl; go_simp; try with_reducible rfl)
  try simp only [Act.put, List.setIfInBounds_toArray, List.set_cons_zero, List.set_cons_succ]
  refine wpAnyH_ready (rs := [4]) (by kernel_rfl) (by simp) ?_
  refine AllReadyH.cons (by simp only [List.getElem?_toArray, List.getElem?_cons_succ, List.getElem?_cons_zero]; exact rfl) (fun K hK => ?_) AllReadyH.nil
  go_simp
  refine (add_any a.lo b.lo _ ha.1 hb.1).mono ?_
  rintro e w' ⟨rfl, rfl⟩
  refine hK.out _ _ hHeld (fun hHeld => ?_)
  clear hK K
  try simp only [Act.put, List.setIfInBounds_toArray, List.set_cons_zero, List.set_cons_succ]
  refine wpAnyH_ready (rs := [9]) (by kernel_rfl) (by simp) ?_
  refine AllReadyH.cons (by simp only [List.getElem?_toArray, List.getElem?_cons_succ, List.getElem?_cons_zero]; exact rfl) (fun K hK => ?_) AllReadyH.nil
  go_simp
  refine (add_any a.hi b.hi _ ha.2 hb.2).mono ?_
  rintro e w' ⟨rfl, rfl⟩
  refine hK.out _ _ hHeld (fun hHeld => ?_)
  clear hK K
  try simp only [Act.put, List.setIfInBounds_toArray, List.set_cons_zero, List.set_cons_succ]
  refine' wpAnyH_take (i := 10) (v := _) (by simp only [List.getElem?_toArray, List.getElem?_cons_succ, List.getElem?_cons_zero]; exact rfl) (by kernel_rfl) (by kernel_rfl) (by kernel_rfl) (fun _ _ _ h => h) (Or.inl ⟨by rfl, ?y10x1⟩) hHeld ?r10x1
  case y10x1 => (intro w hSw; (try dsimp only at hSw); go_simp; try with_reducible rfl)
  try simp only [Act.put, List.setIfInBounds_toArray, List.set_cons_zero, List.set_cons_succ]
  refine wpAnyH_ready (rs := [11]) (by kernel_rfl) (by simp) ?_
  refine AllReadyH.cons (by simp only [List.getElem?_toArray, List.getElem?_cons_succ, List.getElem?_cons_zero]; exact rfl) (fun K hK => ?_) AllReadyH.nil
  rw [if_pos (by rfl)]
  refine wp_store_row 53 _ _ rfl (w.heap.size + 1 + 1) #[.int .i64 (addS a.lo b.lo), .int .i64 (addS a.hi b.hi)] rfl rfl 53 #[.int .i64 0, .int .i64 0] r2 infoSp rfl (by simp [Value.oneCell']) ?_
  have hH := setRow_heap w0.drew _ _ #[.int .i64 (addS a.lo b.lo), .int .i64 (addS a.hi b.hi)] _ _ r2
  refine hK.out _ _ ⟨(setRow_other _ _ _ _ (by omega)).trans hHeld.1, (setRow_other _ _ _ _ (by omega)).trans hHeld.2.1, below_setRow hHeld.2.2 (by omega) _⟩ (fun hHeld => ?_)
  clear hK K
  try simp only [Act.put]
  refine wpAnyH_done (by kernel_rfl) ?_ _
  refine NoPanic.normal ?_
  go_wp2_with fail
  exact bodyPost_ret (v := .agg #[.int .i64 (addS a.lo b.lo), .int .i64 (addS a.hi b.hi)]) (results_cell_row rfl _ _ _ 53 _ (0, 0) _ rfl hH undSp rfl infoSp) rfl (retS_mk rfl hHeld.2.2)

set_option maxRecDepth 100000 in
set_option maxHeartbeats 1000000 in
theorem rightSp_any (s : SpanV) (w : World) : Calls Tryz.prog 79 #[.agg #[.int .i64 s.lo, .int .i64 s.hi]] w (RetB (rightSp s) w) := by
  go_enter Tryz.func79, Tryz.ntmps79
  go_wp2_with fail
  go_ret
  exact retB_mk rfl ((Below.refl _ _).alloc (Nat.le_refl _) _)
set_option maxRecDepth 100000 in
set_option maxHeartbeats 1000000 in
theorem ofSp_any (n : Int) (w : World) : Calls Tryz.prog 77 #[.int .i64 n] w (RetS ⟨n, n⟩ w) := by
  have HB := Lib.hid ((Below.refl w.heap.size w).alloc (Nat.le_refl _) (.cells #[.int .i64 0, .int .i64 0] 53))
  have HH := Lib.hid (heap_alloc_new w (.cells #[.int .i64 0, .int .i64 0] 53))
  go_enter Tryz.func77, Tryz.ntmps77
  go_upto_region 1 with fail
  generalize w.alloc (.cells #[.int .i64 0, .int .i64 0] 53) = w0 at *
  go_wp2_with (refine wpList_store_row rfl 53 _ _ rfl w.heap.size #[.int .i64 n, .int .i64 n] rfl rfl 53 #[.int .i64 0, .int .i64 0] HH.out infoSp rfl (by simp [Value.oneCell']) ?_)
  have hH := setRow_heap w0 _ _ #[.int .i64 n, .int .i64 n] _ _ HH.out
  exact bodyPost_ret (v := .agg #[.int .i64 n, .int .i64 n]) (results_cell_row rfl _ _ _ 53 _ (0, 0) _ rfl hH undSp rfl infoSp) rfl (retS_mk rfl (below_setRow HB.out (Nat.le_refl _) _))
def withinB (n : Int) : Bool := decide (-1152921504606846976 ≤ n ∧ n ≤ 1152921504606846976)
set_option maxRecDepth 100000 in
set_option maxHeartbeats 1000000 in
theorem within_any (n : Int) (w : World) : Calls Tryz.prog 68 #[.int .i64 n] w fun e w' => e = .returned (.bool (withinB n)) ∧ w = w' := by
  by_cases h1 : -1152921504606846976 ≤ n
  · by_cases h2 : n ≤ 1152921504606846976
    · have HE : Hid (withinB n = true) := Lib.hid (decide_eq_true ⟨h1, h2⟩)
      go_enter Tryz.func68, Tryz.ntmps68
      go_wp2_with fail
      go_ret
      exact ⟨ret_bool HE.out.symm, rfl⟩
    · have HE : Hid (withinB n = false) := Lib.hid (decide_eq_false (fun h => h2 h.2))
      go_enter Tryz.func68, Tryz.ntmps68
      go_wp2_with fail
      go_ret
      exact ⟨ret_bool HE.out.symm, rfl⟩
  · have HE : Hid (withinB n = false) := Lib.hid (decide_eq_false (fun h => h1 h.1))
    go_enter Tryz.func68, Tryz.ntmps68
    go_wp2_with fail
    go_ret
    exact ⟨ret_bool HE.out.symm, rfl⟩
def PbI (p : PublicV) : Prop := I64 p.hour ∧ SpI p.mouth ∧ ∀ s ∈ p.net, SpI s
set_option maxRecDepth 100000 in
set_option maxHeartbeats 1000000 in
theorem mouth_any (p : PublicV) (v : Value) (w : World) : Calls Tryz.prog 55 #[.agg #[.int .i64 p.hour, v, .int .i64 p.mouth.lo, .int .i64 p.mouth.hi]] w (RetS (mouthP p) w) := by
  have HB := Lib.hid (((Below.refl w.heap.size w).alloc (Nat.le_refl _) (.cells #[.int .i64 p.hour, v, .int .i64 p.mouth.lo, .int .i64 p.mouth.hi] 55)).alloc (by simp) (.cells #[.int .i64 0, .int .i64 0] 53))
  have HR := Lib.hid (two_rows (w := w) (A := .cells #[.int .i64 p.hour, v, .int .i64 p.mouth.lo, .int .i64 p.mouth.hi] 55) (B := .cells #[.int .i64 0, .int .i64 0] 53))
  go_enter Tryz.func55, Tryz.ntmps55
  go_upto_region 1 with fail
  generalize (w.alloc (.cells #[.int .i64 p.hour, v, .int .i64 p.mouth.lo, .int .i64 p.mouth.hi] 55)).alloc (.cells #[.int .i64 0, .int .i64 0] 53) = w0 at *
  have HG : Hid (w0.rangeAt w.heap.size 2 [.int .i64 p.mouth.lo, .int .i64 p.mouth.hi]) := Lib.hid (range2 (rowN HR.out.1 2 _ rfl) (rowN HR.out.1 3 _ rfl))
  go_wp2_with (first | (refine wpList_load_range (by first | (go_simp; done) | rfl) 53 _ rfl _ _ rfl _ _ HG.out undSp rfl infoSp ?_) | (refine wpList_store_row rfl 53 _ _ rfl (w.heap.size + 1) #[.int .i64 p.mouth.lo, .int .i64 p.mouth.hi] rfl rfl 53 #[.int .i64 0, .int .i64 0] HR.out.2.1 infoSp rfl (by simp [Value.oneCell']) ?_))
  have hH := setRow_heap w0 _ _ #[.int .i64 p.mouth.lo, .int .i64 p.mouth.hi] _ _ HR.out.2.1
  exact bodyPost_ret (v := .agg #[.int .i64 p.mouth.lo, .int .i64 p.mouth.hi]) (results_cell_row rfl _ _ _ 53 _ (0, 0) _ rfl hH undSp rfl infoSp) rfl (retS_mk rfl (below_setRow HB.out (by omega) _))
set_option maxRecDepth 100000 in
set_option maxHeartbeats 1000000 in
theorem net1_any (p : PublicV) (v : Value) (o : Nat) (ob : Nat) (w : World) (hv : LArg RSpan 2 v p.net w) (h3 : p.net.length = 3) (ho : o < 3) (hob : w.cell? ⟨ob, 0, none⟩ = some (.int .i64 (o : Int))) (hlt : ob < w.heap.size) : Calls Tryz.prog 80 #[.agg #[.int .i64 p.hour, v, .int .i64 p.mouth.lo, .int .i64 p.mouth.hi], .pointer (some ⟨ob, 0, none⟩)] w (RetS (netP o p) w) := by
  obtain ⟨al, lc, rfl, hlc, hlm⟩ := hv.slice
  obtain ⟨s, hs⟩ : ∃ s, p.net[o]? = some s := ⟨_, List.getElem?_eq_getElem (by omega)⟩
  obtain ⟨b, q, cs, rfl, hb, hcl, hrg, rfl, hI⟩ := hv.at hs
  have HE : Hid (netP o p = s) := Lib.hid (by unfold netP; rw [Int.toNat_natCast, hs]; rfl)
  have HB := Lib.hid (((Below.refl w.heap.size w).alloc (Nat.le_refl _) (.cells #[.int .i64 p.hour, .slice (some ⟨b, q, none⟩) p.net.length lc, .int .i64 p.mouth.lo, .int .i64 p.mouth.hi] 55)).alloc (by simp) (.cells #[.int .i64 0, .int .i64 0] 53))
  have HR := Lib.hid (two_rows (w := w) (A := .cells #[.int .i64 p.hour, .slice (some ⟨b, q, none⟩) p.net.length lc, .int .i64 p.mouth.lo, .int .i64 p.mouth.hi] 55) (B := .cells #[.int .i64 0, .int .i64 0] 53))
  have HG := Lib.hid (rangeAt_below hrg HB.out hb)
  have c9 := (HB.out.cell (p := ⟨ob, 0, none⟩) hlt).trans hob
  have hol : o < p.net.length := by omega
  clear hs hv h3 hob hrg
  go_enter Tryz.func80, Tryz.ntmps80
  go_upto_region 1 with fail
  generalize (w.alloc (.cells #[.int .i64 p.hour, .slice (some ⟨b, q, none⟩) p.net.length lc, .int .i64 p.mouth.lo, .int .i64 p.mouth.hi] 55)).alloc (.cells #[.int .i64 0, .int .i64 0] 53) = w0 at *
  have c1 := rowN HR.out.1 1 (.slice (some ⟨b, q, none⟩) p.net.length lc) rfl
  go_wp2_with (first | (refine wpList_load_range (by first | (go_simp; done) | rfl) 53 _ rfl _ _ rfl _ _ HG.out undSp rfl infoSp ?_) | (refine wpList_store_row rfl 53 _ _ rfl (w.heap.size + 1) #[.int .i64 s.lo, .int .i64 s.hi] rfl rfl 53 #[.int .i64 0, .int .i64 0] HR.out.2.1 infoSp rfl (by simp [Value.oneCell']) ?_))
  have hH := setRow_heap w0 _ _ #[.int .i64 s.lo, .int .i64 s.hi] _ _ HR.out.2.1
  exact bodyPost_ret (v := .agg #[.int .i64 s.lo, .int .i64 s.hi]) (results_cell_row rfl _ _ _ 53 _ (0, 0) _ rfl hH undSp rfl infoSp) rfl (retS_mk HE.out (below_setRow HB.out (by omega) _))
set_option maxRecDepth 100000 in
set_option maxHeartbeats 1000000 in
theorem net_any (o : Int) (w : World) : Calls Tryz.prog 45 #[.int .i64 o] w fun e w' => e = .returned (.func (.func 80) #[] #[.pointer (some ⟨w.heap.size, 0, none⟩)]) ∧ w' = w.alloc (.cells #[.int .i64 o] 3) := by
  go_enter Tryz.func45, Tryz.ntmps45
  go_wp2_with fail
  go_ret
  exact ⟨rfl, rfl⟩
end Go.Proofs.YtjbjpkhibcnenaaGreatDoor
/- Wardens: orders by town as a sorted list, and what it reads as. -/
namespace Go.Proofs.YtjbjpkhibcnenaaGreatDoor
structure OV where
  level : Int
  number : Int
  hour : Int
  done : Bool
deriving DecidableEq
abbrev OM := List (Int × OV)
section
variable {H : Type}
def ovD (o : OV) : DataW H := .agg [.lit (.int .i64 o.level), .lit (.int .i64 o.number), .lit (.int .i64 o.hour), .lit (.bool o.done)]
def omD (m : OM) : DataW H := .map (m.map fun p => (Lit.int .i64 p.1, ovD p.2))
end
def getM : OM → Int → Option OV
  | [], _ => none
  | p :: m, t => if p.1 = t then some p.2 else getM m t
def insM (x : Int × OV) : OM → OM
  | [] => [x]
  | y :: r => if x.1 < y.1 then x :: y :: r else y :: insM x r
def delM (m : OM) (t : Int) : OM := m.filter fun p => !decide (p.1 = t)
def putM (m : OM) (t : Int) (o : OV) : OM := insM (t, o) (delM m t)
theorem insM_D {H : Type} (t : Int) (o : OV) : ∀ m : OM, DataW.insert (H := H) (.int .i64 t, ovD o) (m.map fun p => (Lit.int .i64 p.1, ovD p.2)) = (insM (t, o) m).map fun p => (Lit.int .i64 p.1, ovD p.2)
  | [] => rfl
  | y :: r => by
    simp only [List.map_cons, DataW.insert, insM, Lit.before, decide_eq_true_eq]
    by_cases h : t < y.1
    · rw [if_pos h, if_pos h]
      rfl
    · rw [if_neg h, if_neg h, insM_D t o r]
      rfl
theorem omD_put {H : Type} (m : OM) (t : Int) (o : OV) : (omD (H := H) m).put (.int .i64 t) (ovD o) = omD (putM m t o) := by
  unfold omD DataW.put putM delM
  simp only [DataW.map.injEq]
  rw [← insM_D, List.filter_map]
  congr 2
  apply List.filter_congr
  intro p _
  simp [Lit.sameKey]
theorem omD_atKey {H : Type} (m : OM) (t : Int) (z : DataW H) : (omD m).atKey (.int .i64 t) z = match getM m t with | some o => ovD o | none => z := by
  unfold omD DataW.atKey
  simp only
  induction m with
  | nil => rfl
  | cons p m ih =>
    simp only [List.map_cons, List.find?_cons, Lit.sameKey, true_and, getM]
    by_cases h : p.1 = t
    · simp [h]
    · simp only [h, decide_false, if_false]
      exact ih
theorem getM_ins (t : Int) (o : OV) : ∀ (m : OM), (∀ p ∈ m, p.1 ≠ t) → ∀ t', getM (insM (t, o) m) t' = if t' = t then some o else getM m t'
  | [], _, t' => by
    simp only [insM, getM]
    by_cases h : t = t'
    · simp [h]
    · rw [if_neg h, if_neg (fun e => h e.symm)]
  | y :: r, hm, t' => by
    have hy : y.1 ≠ t := hm y (by simp)
    simp only [insM]
    by_cases h : t < y.1
    · rw [if_pos h]
      simp only [getM]
      by_cases h2 : t = t'
      · simp [h2]
      · rw [if_neg h2, if_neg (show ¬ t' = t from fun e => h2 e.symm)]
    · rw [if_neg h]
      simp only [getM]
      rw [getM_ins t o r (fun p hp => hm p (by simp [hp])) t']
      by_cases h2 : y.1 = t'
      · rw [if_pos h2, if_pos h2, if_neg (fun e => hy (h2.trans e))]
      · rw [if_neg h2, if_neg h2]
theorem getM_del (m : OM) (t t' : Int) (h : t' ≠ t) : getM (delM m t) t' = getM m t' := by
  unfold delM
  induction m with
  | nil => rfl
  | cons p m ih =>
    by_cases hp : p.1 = t
    · rw [List.filter_cons_of_neg (by simp [hp])]
      simp only [getM]
      rw [if_neg (fun e => h (e.symm.trans hp)), ih]
    · rw [List.filter_cons_of_pos (by simp [hp])]
      simp only [getM, ih]
theorem delM_ne (m : OM) (t : Int) : ∀ p ∈ delM m t, p.1 ≠ t := fun p hp => by
  unfold delM at hp
  simpa using (List.mem_filter.1 hp).2
theorem getM_put (m : OM) (t : Int) (o : OV) (t' : Int) : getM (putM m t o) t' = if t' = t then some o else getM m t' := by
  unfold putM
  rw [getM_ins t o _ (delM_ne m t)]
  by_cases h : t' = t
  · rw [if_pos h, if_pos h]
  · rw [if_neg h, if_neg h, getM_del m t t' h]
end Go.Proofs.YtjbjpkhibcnenaaGreatDoor
/- Maps from int to any values of a list, as functions. -/
namespace Go.Proofs.YtjbjpkhibcnenaaGreatDoor
open Go.RowKit Go.Maps
theorem i64_mk {n : Int} (h : I64 n) : (Lit.int .i64 n).wf = true := by
  unfold I64 at h
  simp [Lit.wf, IntKind.min, IntKind.max, IntKind.signed, IntKind.bits]
  omega
theorem ovD_inj {a b : OV} (h : ovD (H := Unit) a = ovD b) : a = b := by
  unfold ovD at h
  simp only [DataW.agg.injEq, List.cons.injEq, DataW.lit.injEq, Lit.int.injEq, Lit.bool.injEq, true_and, and_true] at h
  obtain ⟨h1, h2, h3, h4⟩ := h
  cases a; cases b
  simp only [OV.mk.injEq]
  exact ⟨h1, h2, h3, h4⟩
def zeroO : OV := ⟨-1, 0, 0, false⟩
def ixO (j : Nat) : OV := ⟨(j : Int), 0, 0, false⟩
open Classical in
noncomputable def ixR (z : Value) (vs : List Value) : RdR := fun v =>
  if v = z then some (ovD zeroO, []) else if h : ∃ j : Nat, vs[j]? = some v then some (ovD (ixO (Classical.choose h)), []) else none
open Classical in
noncomputable def decO (z : Value) (vs : List Value) (o : OV) : Value := if o = zeroO then z else (vs[o.level.toNat]?).getD z
theorem ix_ne (j : Nat) : ixO j ≠ zeroO := fun h => by
  unfold ixO zeroO at h
  simp only [OV.mk.injEq] at h
  omega
theorem decO_zero (z : Value) (vs : List Value) : decO z vs zeroO = z := by unfold decO; rw [if_pos rfl]
theorem ixR_zero (z : Value) (vs : List Value) : ixR z vs z = some (ovD zeroO, []) := by unfold ixR; rw [if_pos rfl]
theorem ixR_mk {z : Value} {vs : List Value} {v : Value} (h : v = z ∨ v ∈ vs) : ∃ o, ixR z vs v = some (ovD o, []) ∧ decO z vs o = v := by
  by_cases hz : v = z
  · subst hz
    exact ⟨zeroO, ixR_zero _ _, decO_zero _ _⟩
  · have hj : ∃ j : Nat, vs[j]? = some v := by
      rcases h with h | h
      · exact absurd h hz
      · exact List.getElem?_of_mem h
    refine ⟨ixO (Classical.choose hj), ?_, ?_⟩
    · unfold ixR
      rw [if_neg hz, dif_pos hj]
    · unfold decO
      rw [if_neg (ix_ne _)]
      have := Classical.choose_spec hj
      show (vs[(Int.toNat (Classical.choose hj : Nat))]?).getD z = v
      rw [Int.toNat_natCast, this]
      rfl
theorem ixR_inv {z : Value} {vs : List Value} {v : Value} {o : OV} {ps : List MemPlace} (h : ixR z vs v = some (ovD o, ps)) : v = decO z vs o := by
  unfold ixR at h
  split at h
  · next hz =>
    simp only [Option.some.injEq, Prod.mk.injEq] at h
    have := ovD_inj h.1
    subst this
    rw [decO_zero]
    exact hz
  · split at h
    · next hj =>
      simp only [Option.some.injEq, Prod.mk.injEq] at h
      have := ovD_inj h.1
      subst this
      unfold decO
      rw [if_neg (ix_ne _)]
      have := Classical.choose_spec hj
      show v = (vs[(Int.toNat (Classical.choose hj : Nat))]?).getD z
      rw [Int.toNat_natCast, this]
      rfl
    · cases h
theorem lawI : Keyed Tryz.prog 3 := int_keyed Tryz.underlying3
/-- the map in block mb holds f; at most n entries; its values are z or of the list vs -/
def MapF (z : Value) (vs : List Value) (w : World) (mb n : Nat) (f : Int → Option Value) : Prop :=
  ∃ m : OM, w.ownsMap Tryz.prog 3 (ixR z vs) mb n (omD m) ∧ ∀ t, f t = (getM m t).map (decO z vs)
theorem MapF.made (z : Value) (vs : List Value) (w : World) : MapF z vs (w.alloc (.map #[] 0)) w.heap.size 0 (fun _ => none) :=
  ⟨[], World.ownsMap_made w Tryz.prog 3 (ixR z vs), fun _ => rfl⟩
theorem MapF.lt {z : Value} {vs : List Value} {w : World} {mb n : Nat} {f : Int → Option Value} (h : MapF z vs w mb n f) : mb < w.heap.size := by
  obtain ⟨m, ⟨es, clock, hm, _⟩, _⟩ := h
  exact (Array.getElem?_eq_some_iff.1 hm).1
theorem MapF.keep {z : Value} {vs : List Value} {w w' : World} {mb n : Nat} {f : Int → Option Value} (h : MapF z vs w mb n f) (hb : w'.heap[mb]? = w.heap[mb]?) : MapF z vs w' mb n f := by
  obtain ⟨m, ⟨es, clock, hm, h2⟩, h3⟩ := h
  exact ⟨m, ⟨es, clock, hb.trans hm, h2⟩, h3⟩
theorem MapF.below {z : Value} {vs : List Value} {w w' : World} {mb n : Nat} {f : Int → Option Value} (h : MapF z vs w mb n f) (hb : Below w.heap.size w w') : MapF z vs w' mb n f := h.keep (hb.block mb h.lt)
theorem MapF.mono {z : Value} {vs : List Value} {w : World} {mb n n' : Nat} {f : Int → Option Value} (h : MapF z vs w mb n f) (hn : n ≤ n') : MapF z vs w mb n' f := by
  obtain ⟨m, h2, h3⟩ := h
  exact ⟨m, h2.mono hn, h3⟩
theorem atKey_ordA (m : OM) (t : Int) : (omD (H := Unit) m).atKey (.int .i64 t) (ovD zeroO) = ovD ((getM m t).getD zeroO) := by
  rw [omD_atKey]
  cases getM m t <;> rfl
theorem MapF.look {mt vt : TypeId} {z : Value} {vs : List Value} {w : World} {mb n : Nat} {f : Int → Option Value} (hu : Tryz.prog.underlying mt = some (.map 3 vt)) (hz : (zeroValue vt).run Tryz.prog w = .ok z w) (h : MapF z vs w mb n f) {t : Int} (ht : I64 t) :
    (Instr.lookup mt (.map (some mb)) (.int .i64 t) false).run Tryz.prog w = .ok ((f t).getD z) w := by
  obtain ⟨m, h, hf⟩ := h
  obtain ⟨v, ps, hrun, hR⟩ := h.lookup lawI hu hz (ixR_zero z vs) (keyOf_int_mk Tryz.underlying3 (i64_mk ht))
  rw [atKey_ordA] at hR
  have := ixR_inv hR
  rw [hrun, hf, this]
  cases getM m t with
  | none => show _ = Result.ok z w; rw [Option.getD_none, decO_zero]
  | some o => rfl
theorem MapF.look_ok {mt vt : TypeId} {z : Value} {vs : List Value} {w : World} {mb n : Nat} {f : Int → Option Value} (hu : Tryz.prog.underlying mt = some (.map 3 vt)) (hz : (zeroValue vt).run Tryz.prog w = .ok z w) (h : MapF z vs w mb n f) {t : Int} (ht : I64 t) :
    (Instr.lookup mt (.map (some mb)) (.int .i64 t) true).run Tryz.prog w = .ok (.tuple #[(f t).getD z, .bool (f t).isSome]) w := by
  have hkey := keyOf_int_mk Tryz.underlying3 (i64_mk ht)
  obtain ⟨m, ⟨es, clock, hb, F, _, hD⟩, hf⟩ := h
  rcases Maps.fit_look true lawI hu hz hb F hkey with ⟨hrun, hno, hat⟩ | ⟨e0, y, hm, he, hrun, hRv, hat, _⟩
  · rw [← hD] at hat
    have h1 : (omD (H := Unit) m).atKey (.int .i64 t) (.lit (.bool true)) = .lit (.bool true) := hat _
    rw [omD_atKey] at h1
    cases hg : getM m t with
    | none =>
      rw [hf, hg]
      exact hrun
    | some o =>
      rw [hg] at h1
      cases h1
  · rw [← hD] at hat
    have h1 := hat (.lit (.bool true))
    rw [omD_atKey] at h1
    cases hg : getM m t with
    | none =>
      have h2 := hat (.lit (.bool false))
      rw [omD_atKey, hg] at h2
      rw [hg] at h1
      rw [← h1] at h2
      cases h2
    | some o =>
      rw [hg] at h1
      obtain ⟨y1, y2⟩ := y
      simp only at h1
      subst h1
      have := ixR_inv hRv
      rw [hf, hg]
      show _ = Result.ok (Value.tuple #[decO z vs o, .bool true]) w
      rw [← this]
      exact hrun
theorem MapF.put {mt vt : TypeId} {z : Value} {vs : List Value} {w : World} {mb n : Nat} {f : Int → Option Value} (hu : Tryz.prog.underlying mt = some (.map 3 vt)) (h : MapF z vs w mb n f) {t : Int} (ht : I64 t) {v : Value} (hv : v = z ∨ v ∈ vs) (hn : n < maxLen) :
    ∃ w', (Instr.mapUpdate mt (.map (some mb)) (.int .i64 t) v).run Tryz.prog w = .ok () w' ∧ MapF z vs w' mb (n + 1) (fun s => if s = t then some v else f s) ∧ w.grownBy w' (some mb) := by
  obtain ⟨m, h, hf⟩ := h
  obtain ⟨o, ho, hd⟩ := ixR_mk hv
  obtain ⟨w', hup, hown, hgr⟩ := World.ownsMap.update (H := Unit) h lawI hu hn (keyOf_int_mk Tryz.underlying3 (i64_mk ht)) ho
  rw [omD_put] at hown
  refine ⟨w', hup, ⟨_, hown, fun s => ?_⟩, hgr⟩
  show (if s = t then some v else f s) = _
  rw [getM_put]
  by_cases e : s = t
  · rw [if_pos e, if_pos e]
    show some v = some (decO z vs o)
    rw [hd]
  · rw [if_neg e, if_neg e]
    exact hf s
end Go.Proofs.YtjbjpkhibcnenaaGreatDoor
