/- gate.Ask and Drift. -/
import Derived.Test.YtkoobkcmmfdlhaaUAsks
import Derived.Deep.RegionLaw
import Derived.StillTailTactics
namespace Go.Proofs.Ytkoobkcmmfdlhaa
open Go.RowKit
theorem rowN {w : World} {b : Nat} {cs : Array Value} {t : TypeId} (h : w.heap[b]? = some (.cells cs t (0, 0))) : ∀ j (v : Value), cs[j]? = some v → w.cell? ⟨b, j, none⟩ = some v := fun j v hj => by
  rw [cell_of_row _ _ _ _ _ _ h]
  exact hj
theorem bcellV {W w1 : World} (hb : Below W.heap.size W w1) : (∀ b o, b < W.heap.size → w1.cell? ⟨b, o, none⟩ = W.cell? ⟨b, o, none⟩) ∧ (∀ b o, b < W.heap.size → w1.frozen? ⟨b, o, none⟩ = W.frozen? ⟨b, o, none⟩) :=
  ⟨fun b o h => hb.cell (p := ⟨b, o, none⟩) h, fun b o h => hb.frozen (p := ⟨b, o, none⟩) h⟩
theorem undKn : Try.prog.underlying 52 = some (.struct (Try.prog.fieldsOf 52)) := by kernel_rfl
theorem infoKn : (Try.prog.info? 52).map (·.size) = some 5 := by kernel_rfl
set_option maxRecDepth 100000 in
set_option maxHeartbeats 2000000 in
theorem ask_any (l : LinkV) (v1 v2 v3 : Value) (g : GateV) (a b : Int) (w : World) (hk : LinkB l) (ha : I64 a) (h1 : LArg RPoint 2 v1 l.rate w) :
    Calls Try.prog 15 #[.agg #[.string l.name, .int .i64 l.kind, .int .i64 l.src, .int .i64 l.dst, v1, v2, v3, .int .i64 l.positions, .int .i64 l.speed, .int .i64 l.leak, .int .i64 l.crest, .int .i64 l.num, .int .i64 l.den, .int .i64 l.prime, .int .i64 l.brk, .int .i64 l.backNum, .int .i64 l.backDen, .int .i64 l.delay], .agg #[.int .i64 g.pos, .int .i64 g.target, .bool g.stuck, .bool g.opened], .int .i64 a, .int .i64 b] w (RetI (askN l g a b) w) := by
  have HK := Lib.hid hk
  have HA := Lib.hid ha
  have HL := Lib.hid h1
  clear hk ha h1
  obtain ⟨r0, r1, rb⟩ := two_rowsV (w := w) (A := (.cells #[.string l.name, .int .i64 l.kind, .int .i64 l.src, .int .i64 l.dst, v1, v2, v3, .int .i64 l.positions, .int .i64 l.speed, .int .i64 l.leak, .int .i64 l.crest, .int .i64 l.num, .int .i64 l.den, .int .i64 l.prime, .int .i64 l.brk, .int .i64 l.backNum, .int .i64 l.backDen, .int .i64 l.delay] 26 (0, 0))) (B := (.cells #[.int .i64 g.pos, .int .i64 g.target, .bool g.stuck, .bool g.opened] 28 (0, 0)))
  have HR0 := Lib.hid r0
  have HB := Lib.hid rb
  have g0 := rowN r1 0 (.int .i64 g.pos) rfl
  have g3 := rowN r1 3 (.bool g.opened) rfl
  have l4 := rowN r0 4 v1 rfl
  clear r0 r1 rb
  go_enter Try.func15, Try.ntmps15
  go_upto_region 1 with fail
  generalize (w.alloc (.cells #[.string l.name, .int .i64 l.kind, .int .i64 l.src, .int .i64 l.dst, v1, v2, v3, .int .i64 l.positions, .int .i64 l.speed, .int .i64 l.leak, .int .i64 l.crest, .int .i64 l.num, .int .i64 l.den, .int .i64 l.prime, .int .i64 l.brk, .int .i64 l.backNum, .int .i64 l.backDen, .int .i64 l.delay] 26)).alloc (.cells #[.int .i64 g.pos, .int .i64 g.target, .bool g.stuck, .bool g.opened] 28) = w0 at *
  go_wp2_with (first | (refine wpList_load_row rfl 26 _ rfl _ rfl 26 _ _ _ HR0.out undLk rfl infoLk ?_))
  refine (asks_any l v1 v2 v3 g.pos g.opened l.rate v1 a b _ HK.out HA.out (HL.out.below stays_Point HB.out)).mono ?_
  rintro e w1 ⟨rfl, hb⟩
  go_wp2_with fail
  go_ret
  exact retI_mk rfl (HB.out.trans (hb.mono HB.out.size))
def driftN (l : LinkV) (k : KnownV) (sure : Bool) : KnownV :=
  if sure then { k with pos := ⟨moveP l ⟨k.pos.lo, k.target, false, false⟩, moveP l ⟨k.pos.hi, k.target, false, false⟩⟩ }
  else { k with pos := ⟨clampN (subS k.pos.lo l.speed) 0 l.positions, clampN (addS k.pos.hi l.speed) 0 l.positions⟩ }
def RetK (k : KnownV) (w : World) (e : Ending) (w' : World) : Prop := e = .returned (.agg #[.int .i64 k.pos.lo, .int .i64 k.pos.hi, .int .i64 k.target, .int .i64 k.opened.lo, .int .i64 k.opened.hi]) ∧ Below w.heap.size w w'
theorem retK_mk {k : KnownV} {w w' : World} {a b c d f : Int} (h : k = ⟨⟨a, b⟩, c, ⟨d, f⟩⟩) (hb : Below w.heap.size w w') : RetK k w (.returned (.agg #[.int .i64 a, .int .i64 b, .int .i64 c, .int .i64 d, .int .i64 f])) w' := by subst h; exact ⟨rfl, hb⟩
theorem field_pos (a b : Int) (s o : Bool) (w : World) : (Instr.field 28 (.agg #[.int .i64 a, .int .i64 b, .bool s, .bool o]) 0).run Try.prog w = .ok (.int .i64 a) w := by kernel_rfl
set_option maxRecDepth 100000 in
set_option maxHeartbeats 2000000 in
theorem dclo_any (l : LinkV) (v1 v2 v3 : Value) (k : KnownV) (p : Int) (b1 b2 : Nat) (W : World) (h1 : W.heap[b1]? = some (.cells #[.string l.name, .int .i64 l.kind, .int .i64 l.src, .int .i64 l.dst, v1, v2, v3, .int .i64 l.positions, .int .i64 l.speed, .int .i64 l.leak, .int .i64 l.crest, .int .i64 l.num, .int .i64 l.den, .int .i64 l.prime, .int .i64 l.brk, .int .i64 l.backNum, .int .i64 l.backDen, .int .i64 l.delay] 26 (0, 0))) (h2 : W.heap[b2]? = some (.cells #[.int .i64 k.pos.lo, .int .i64 k.pos.hi, .int .i64 k.target, .int .i64 k.opened.lo, .int .i64 k.opened.hi] 52 (0, 0))) (hs : I64 l.speed) (hp : I64 p) (ht : I64 k.target) :
    Calls Try.prog 27 (#[.int .i64 p] ++ #[.pointer (some ⟨b1, 0, none⟩), .pointer (some ⟨b2, 0, none⟩)]) W (RetI (moveP l ⟨p, k.target, false, false⟩) W) := by
  have HS := Lib.hid hs
  have HP := Lib.hid hp
  have HT := Lib.hid ht
  have HR1 := Lib.hid h1
  have d2 : W.cell? ⟨b2, 2, none⟩ = some (.int .i64 k.target) := rowN h2 2 _ rfl
  clear h1 h2 hs hp ht
  go_enter Try.func27, Try.ntmps27
  go_wp2_with (first | (refine wpList_load_row rfl 26 _ rfl _ rfl 26 _ _ _ HR1.out undLk rfl infoLk ?_))
  refine (move_any l v1 v2 v3 ⟨p, k.target, false, false⟩ _ HS.out HP.out HT.out).mono ?_
  rintro e w1 ⟨rfl, hb⟩
  have hfl := field_pos
  go_wp2_with fail
  go_ret
  exact retI_mk rfl hb
theorem three_rowsV {w : World} {A B C : Obj} : (((w.alloc A).alloc B).alloc C).heap[w.heap.size]? = some A ∧ (((w.alloc A).alloc B).alloc C).heap[w.heap.size + 1]? = some B ∧ (((w.alloc A).alloc B).alloc C).heap[w.heap.size + 1 + 1]? = some C ∧ Below w.heap.size w (((w.alloc A).alloc B).alloc C) := by
  obtain ⟨h1, h2, h3⟩ := two_rowsV (w := w) (A := A) (B := B)
  have s2 : ((w.alloc A).alloc B).heap.size = w.heap.size + 1 + 1 := by simp
  have h4 := heap_alloc_new ((w.alloc A).alloc B) C
  rw [s2] at h4
  have hb : Below ((w.alloc A).alloc B).heap.size ((w.alloc A).alloc B) (((w.alloc A).alloc B).alloc C) := (Below.refl _ _).alloc (Nat.le_refl _) _
  exact ⟨blk_below h1 hb (blk_lt h1), blk_below h2 hb (blk_lt h2), h4, h3.trans (hb.mono h3.size)⟩
set_option maxRecDepth 100000 in
set_option maxHeartbeats 4000000 in
theorem drift_sure (l : LinkV) (v1 v2 v3 : Value) (k : KnownV) (w : World) (hs : I64 l.speed) (h1 : I64 k.pos.lo) (h2 : I64 k.pos.hi) (h3 : I64 k.target) :
    Calls Try.prog 17 #[.agg #[.string l.name, .int .i64 l.kind, .int .i64 l.src, .int .i64 l.dst, v1, v2, v3, .int .i64 l.positions, .int .i64 l.speed, .int .i64 l.leak, .int .i64 l.crest, .int .i64 l.num, .int .i64 l.den, .int .i64 l.prime, .int .i64 l.brk, .int .i64 l.backNum, .int .i64 l.backDen, .int .i64 l.delay], .agg #[.int .i64 k.pos.lo, .int .i64 k.pos.hi, .int .i64 k.target, .int .i64 k.opened.lo, .int .i64 k.opened.hi], .bool true] w (RetK (driftN l k true) w) := by
  obtain ⟨r0, r1, r2, rb⟩ := three_rowsV (w := w) (A := (.cells #[.string l.name, .int .i64 l.kind, .int .i64 l.src, .int .i64 l.dst, v1, v2, v3, .int .i64 l.positions, .int .i64 l.speed, .int .i64 l.leak, .int .i64 l.crest, .int .i64 l.num, .int .i64 l.den, .int .i64 l.prime, .int .i64 l.brk, .int .i64 l.backNum, .int .i64 l.backDen, .int .i64 l.delay] 26 (0, 0))) (B := (.cells #[.int .i64 k.pos.lo, .int .i64 k.pos.hi, .int .i64 k.target, .int .i64 k.opened.lo, .int .i64 k.opened.hi] 52 (0, 0))) (C := (.cells #[.int .i64 0, .int .i64 0, .int .i64 0, .int .i64 0, .int .i64 0] 52 (0, 0)))
  have HE : Hid (driftN l k true = ⟨⟨moveP l ⟨k.pos.lo, k.target, false, false⟩, moveP l ⟨k.pos.hi, k.target, false, false⟩⟩, k.target, k.opened⟩) := Lib.hid rfl
  generalize hW : ((w.alloc (.cells #[.string l.name, .int .i64 l.kind, .int .i64 l.src, .int .i64 l.dst, v1, v2, v3, .int .i64 l.positions, .int .i64 l.speed, .int .i64 l.leak, .int .i64 l.crest, .int .i64 l.num, .int .i64 l.den, .int .i64 l.prime, .int .i64 l.brk, .int .i64 l.backNum, .int .i64 l.backDen, .int .i64 l.delay] 26)).alloc (.cells #[.int .i64 k.pos.lo, .int .i64 k.pos.hi, .int .i64 k.target, .int .i64 k.opened.lo, .int .i64 k.opened.hi] 52)).alloc (.cells #[.int .i64 0, .int .i64 0, .int .i64 0, .int .i64 0, .int .i64 0] 52) = w0 at *
  have HCL : Hid (∀ W, Below w0.heap.size w0 W → ∀ p, I64 p → Calls Try.prog 27 (#[.int .i64 p] ++ #[.pointer (some ⟨w.heap.size, 0, none⟩), .pointer (some ⟨w.heap.size + 1, 0, none⟩)]) W (RetI (moveP l ⟨p, k.target, false, false⟩) W)) :=
    Lib.hid fun W hb p hp => dclo_any l v1 v2 v3 k p _ _ W (blk_below r0 hb (blk_lt r0)) (blk_below r1 hb (blk_lt r1)) hs hp h3
  have d0 := rowN r1 0 (.int .i64 k.pos.lo) rfl
  have d1 := rowN r1 1 (.int .i64 k.pos.hi) rfl
  have z0 : w0.frozen? ⟨w.heap.size + 1, 0, none⟩ = false := frozen_of_row _ _ _ _ _ r1
  have z1 : w0.frozen? ⟨w.heap.size + 1, 1, none⟩ = false := frozen_of_row _ _ _ _ _ r1
  have HR1 := Lib.hid r1
  have HR2 := Lib.hid r2
  have HB := Lib.hid rb
  have H1 := Lib.hid h1
  have H2 := Lib.hid h2
  have hz1 := blk_lt r1
  clear r0 r1 r2 rb hs h1 h2 h3
  go_enter Try.func17, Try.ntmps17
  go_upto_region 1 with fail

  clear hW
  go_upto_region 3 with fail
  go_region_law ((go_simp; refine (HCL.out _ (by first | exact (Below.refl _ _).drew | assumption) _ (by first | exact H1.out | exact H2.out)).mono ?_; rintro e wc ⟨rfl, hb⟩; have hB : Below w0.heap.size w0 wc := (by first | exact (show Below w0.heap.size w0 _ from by assumption).trans (hb.mono (show Below w0.heap.size w0 _ from by assumption).size) | exact (Below.refl _ _).drew.trans (hb.mono (Nat.le_refl _))); clear hb; obtain ⟨hc, hf⟩ := bcellV hB))
  all_goals
    have hk1 := blk_below HR1.out hB (blk_lt HR1.out)
    have hk2 := heap_setCell_same _ _ 0 _ _ (.int .i64 (moveP l ⟨k.pos.lo, k.target, false, false⟩)) hk1
    have hk3 := heap_setCell_same _ _ 1 _ _ (.int .i64 (moveP l ⟨k.pos.hi, k.target, false, false⟩)) hk2
    have hq1 := blk_below HR2.out hB (blk_lt HR2.out)
    have hne : w.heap.size + 1 + 1 ≠ w.heap.size + 1 := by omega
    have hq3 : ((wc.setCell ⟨w.heap.size + 1, 0, none⟩ (.int .i64 (moveP l ⟨k.pos.lo, k.target, false, false⟩))).setCell ⟨w.heap.size + 1, 1, none⟩ (.int .i64 (moveP l ⟨k.pos.hi, k.target, false, false⟩))).heap[w.heap.size + 1 + 1]? = _ := ((heap_setCell_other _ _ _ _ hne).trans (heap_setCell_other _ _ _ _ hne)).trans hq1
    have hbb : Below w.heap.size w ((wc.setCell ⟨w.heap.size + 1, 0, none⟩ (.int .i64 (moveP l ⟨k.pos.lo, k.target, false, false⟩))).setCell ⟨w.heap.size + 1, 1, none⟩ (.int .i64 (moveP l ⟨k.pos.hi, k.target, false, false⟩))) := (((HB.out.trans (hB.mono HB.out.size)).setCell (by show w.heap.size ≤ w.heap.size + 1; omega) _).setCell (by show w.heap.size ≤ w.heap.size + 1; omega) _)
    generalize (wc.setCell ⟨w.heap.size + 1, 0, none⟩ (.int .i64 (moveP l ⟨k.pos.lo, k.target, false, false⟩))).setCell ⟨w.heap.size + 1, 1, none⟩ (.int .i64 (moveP l ⟨k.pos.hi, k.target, false, false⟩)) = w3 at *
    have HK3 := Lib.hid hk3
    have HQ3 := Lib.hid hq3
    have HBB := Lib.hid hbb
    clear hne hk1 hk2 hk3 hq1 hq3 hbb hB hc hf
    go_wp2_with (first | (refine wpList_load_row rfl 52 _ rfl _ rfl 52 _ _ _ HK3.out undKn rfl infoKn ?_) | (refine wpList_store_row rfl 52 _ _ rfl (w.heap.size + 1 + 1) #[.int .i64 (moveP l ⟨k.pos.lo, k.target, false, false⟩), .int .i64 (moveP l ⟨k.pos.hi, k.target, false, false⟩), .int .i64 k.target, .int .i64 k.opened.lo, .int .i64 k.opened.hi] rfl rfl 52 _ HQ3.out infoKn rfl (by simp [Value.oneCell']) ?_))
    refine bodyPost_ret (v := .agg #[.int .i64 _, .int .i64 _, .int .i64 k.target, .int .i64 k.opened.lo, .int .i64 k.opened.hi]) (results_cell_row rfl _ _ _ 52 _ (0, 0) _ rfl (setRow_heap _ _ _ _ _ _ HQ3.out) undKn rfl infoKn) rfl (retK_mk HE.out ?_)
    exact below_setRow HBB.out (show w.heap.size ≤ w.heap.size + 1 + 1 by omega) _
set_option maxRecDepth 100000 in
set_option maxHeartbeats 4000000 in
theorem drift_wide (l : LinkV) (v1 v2 v3 : Value) (k : KnownV) (w : World) (hs : I64 l.speed) (h1 : I64 k.pos.lo) (h2 : I64 k.pos.hi) :
    Calls Try.prog 17 #[.agg #[.string l.name, .int .i64 l.kind, .int .i64 l.src, .int .i64 l.dst, v1, v2, v3, .int .i64 l.positions, .int .i64 l.speed, .int .i64 l.leak, .int .i64 l.crest, .int .i64 l.num, .int .i64 l.den, .int .i64 l.prime, .int .i64 l.brk, .int .i64 l.backNum, .int .i64 l.backDen, .int .i64 l.delay], .agg #[.int .i64 k.pos.lo, .int .i64 k.pos.hi, .int .i64 k.target, .int .i64 k.opened.lo, .int .i64 k.opened.hi], .bool false] w (RetK (driftN l k false) w) := by
  obtain ⟨r0, r1, r2, rb⟩ := three_rowsV (w := w) (A := (.cells #[.string l.name, .int .i64 l.kind, .int .i64 l.src, .int .i64 l.dst, v1, v2, v3, .int .i64 l.positions, .int .i64 l.speed, .int .i64 l.leak, .int .i64 l.crest, .int .i64 l.num, .int .i64 l.den, .int .i64 l.prime, .int .i64 l.brk, .int .i64 l.backNum, .int .i64 l.backDen, .int .i64 l.delay] 26 (0, 0))) (B := (.cells #[.int .i64 k.pos.lo, .int .i64 k.pos.hi, .int .i64 k.target, .int .i64 k.opened.lo, .int .i64 k.opened.hi] 52 (0, 0))) (C := (.cells #[.int .i64 0, .int .i64 0, .int .i64 0, .int .i64 0, .int .i64 0] 52 (0, 0)))
  have HE : Hid (driftN l k false = ⟨⟨clampN (subS k.pos.lo l.speed) 0 l.positions, clampN (addS k.pos.hi l.speed) 0 l.positions⟩, k.target, k.opened⟩) := Lib.hid rfl
  generalize hW : ((w.alloc (.cells #[.string l.name, .int .i64 l.kind, .int .i64 l.src, .int .i64 l.dst, v1, v2, v3, .int .i64 l.positions, .int .i64 l.speed, .int .i64 l.leak, .int .i64 l.crest, .int .i64 l.num, .int .i64 l.den, .int .i64 l.prime, .int .i64 l.brk, .int .i64 l.backNum, .int .i64 l.backDen, .int .i64 l.delay] 26)).alloc (.cells #[.int .i64 k.pos.lo, .int .i64 k.pos.hi, .int .i64 k.target, .int .i64 k.opened.lo, .int .i64 k.opened.hi] 52)).alloc (.cells #[.int .i64 0, .int .i64 0, .int .i64 0, .int .i64 0, .int .i64 0] 52) = w0 at *
  have d0 := rowN r1 0 (.int .i64 k.pos.lo) rfl
  have d1 := rowN r1 1 (.int .i64 k.pos.hi) rfl
  have c7 := rowN r0 7 (.int .i64 l.positions) rfl
  have c8 := rowN r0 8 (.int .i64 l.speed) rfl
  have HR1 := Lib.hid r1
  have HR2 := Lib.hid r2
  have HB := Lib.hid rb
  have H1 := Lib.hid h1
  have H2 := Lib.hid h2
  have HS := Lib.hid hs
  clear r0 r1 r2 rb hs h1 h2
  go_enter Try.func17, Try.ntmps17
  go_upto_region 1 with fail
  clear hW
  go_upto_region 5 with fail
  have z0 : w0.frozen? ⟨w.heap.size + 1, 0, none⟩ = false := frozen_of_row _ _ _ _ _ HR1.out
  have z1 : w0.frozen? ⟨w.heap.size + 1, 1, none⟩ = false := frozen_of_row _ _ _ _ _ HR1.out
  go_still_tail 19, (by kernel_rfl)
  still_call (sub_q _ _ _ H1.out HS.out)
  repeat still_step
  still_call (clamp_q _ _ _ _)
  repeat still_step
  still_call (add_q _ _ _ H2.out HS.out)
  repeat still_step
  still_call (clamp_q _ _ _ _)
  repeat still_step
  refine wpStill_nil ?_
  change wpList _ _ _ _ _ w0.drew
  have hB : Below w0.heap.size w0 w0.drew := (Below.refl _ _).drew
  have hr1 := blk_below HR1.out hB (blk_lt HR1.out)
  have hr2 := blk_below HR2.out hB (blk_lt HR2.out)
  have HB2 := Lib.hid (HB.out.trans (hB.mono HB.out.size))
  generalize w0.drew = wc at *
  have HR3 := Lib.hid hr1
  have HQ1 := Lib.hid hr2
  have y0 : wc.frozen? ⟨w.heap.size + 1, 0, none⟩ = false := frozen_of_row _ _ _ _ _ hr1
  have y1 : wc.frozen? ⟨w.heap.size + 1, 1, none⟩ = false := frozen_of_row _ _ _ _ _ hr1
  have e0 := rowN hr1 0 (.int .i64 k.pos.lo) rfl
  have e1 := rowN hr1 1 (.int .i64 k.pos.hi) rfl
  clear hr1 hr2 hB d0 d1 c7 c8 z0 z1 HR1 HR2 HB
  go_upto_region 6 with fail
  generalize clampN (subS k.pos.lo l.speed) 0 l.positions = x0 at *
  generalize clampN (addS k.pos.hi l.speed) 0 l.positions = x1 at *
  have hk2 := heap_setCell_same _ _ 0 _ _ (.int .i64 x0) HR3.out
  have hk3 := heap_setCell_same _ _ 1 _ _ (.int .i64 x1) hk2
  have hne : w.heap.size + 1 + 1 ≠ w.heap.size + 1 := by omega
  have hq3 : ((wc.setCell ⟨w.heap.size + 1, 0, none⟩ (.int .i64 x0)).setCell ⟨w.heap.size + 1, 1, none⟩ (.int .i64 x1)).heap[w.heap.size + 1 + 1]? = _ := ((heap_setCell_other _ _ _ _ hne).trans (heap_setCell_other _ _ _ _ hne)).trans HQ1.out
  have hbb : Below w.heap.size w ((wc.setCell ⟨w.heap.size + 1, 0, none⟩ (.int .i64 x0)).setCell ⟨w.heap.size + 1, 1, none⟩ (.int .i64 x1)) := ((HB2.out.setCell (by show w.heap.size ≤ w.heap.size + 1; omega) _).setCell (by show w.heap.size ≤ w.heap.size + 1; omega) _)
  generalize (wc.setCell ⟨w.heap.size + 1, 0, none⟩ (.int .i64 x0)).setCell ⟨w.heap.size + 1, 1, none⟩ (.int .i64 x1) = w3 at *
  have HK3 := Lib.hid hk3
  have HQ3 := Lib.hid hq3
  have HBB := Lib.hid hbb
  clear hne hk2 hk3 hq3 hbb
  go_wp2_with (first | (refine wpList_load_row rfl 52 _ rfl _ rfl 52 _ _ _ HK3.out undKn rfl infoKn ?_) | (refine wpList_store_row rfl 52 _ _ rfl (w.heap.size + 1 + 1) #[.int .i64 x0, .int .i64 x1, .int .i64 k.target, .int .i64 k.opened.lo, .int .i64 k.opened.hi] rfl rfl 52 _ HQ3.out infoKn rfl (by simp [Value.oneCell']) ?_))
  refine bodyPost_ret (v := .agg #[.int .i64 _, .int .i64 _, .int .i64 k.target, .int .i64 k.opened.lo, .int .i64 k.opened.hi]) (results_cell_row rfl _ _ _ 52 _ (0, 0) _ rfl (setRow_heap _ _ _ _ _ _ HQ3.out) undKn rfl infoKn) rfl (retK_mk HE.out ?_)
  exact below_setRow HBB.out (show w.heap.size ≤ w.heap.size + 1 + 1 by omega) _
end Go.Proofs.Ytkoobkcmmfdlhaa
