/- claim.Read, PromiseRead. -/
import Derived.Outline
import Derived.Test.YtepidpegoihllaaGreatDoorCSign
namespace Go.Proofs.YtepidpegoihllaaGreatDoor
open Go.RowKit
theorem row_grown {w w' : World} {k q : Nat} {o : Obj} (h : w.heap[k]? = some o) (hg : w.grownBy w' (some q)) (hne : k ≠ q) : w'.heap[k]? = some o := by
  rw [hg.block k (blk_lt h) (by simp [hne]), h]
theorem rdAt_lt {g : Nat} {st : RSt} {w : World} (h : RdAt g st w) : g < w.heap.size := by
  obtain ⟨_, _, h, _⟩ := h
  exact blk_lt h
theorem rdAt_set {g b j : Nat} {st : RSt} {w : World} {v : Value} (h : RdAt g st w) (hne : g ≠ b) : RdAt g st (w.setCell ⟨b, j, none⟩ v) := by
  obtain ⟨r, bad, h, h2⟩ := h
  exact ⟨r, bad, (heap_setCell_other _ _ _ _ hne).trans h, h2⟩
theorem results_row_tmp {P : Program} {fn : Func} {p u : Tmp} {ty : TypeId} (h : fn.results = #[.cell p ty, .tmp u]) (tmps : Array Value) (w : World) (g : Nat) (t : TypeId) (cs : Array Value) (fr : Nat × Nat) (d : TypeDesc)
    (hp : tmps.getD p undef = .pointer (some ⟨g, 0, none⟩)) (hg : w.heap[g]? = some (.cells cs t fr))
    (hu : P.underlying ty = some d) (hd : (match d with | .struct _ | .array _ _ => true | _ => false) = true) (hi : (P.info? ty).map (·.size) = some cs.size) :
    (results fn tmps).run P w = .ok (.tuple #[.agg cs, tmps.getD u undef]) w := by
  rw [results_cell_tmp h, hp]
  simp [asAddr, run_loadVar_row w g t ty cs fr d hg hu hd hi]
set_option maxRecDepth 100000 in
set_option maxHeartbeats 2000000 in
theorem readC_any (s : ByteArray) (w : World) (hs : s.size ≤ 10000) :
    Calls Tryz.prog 12 #[.string s] w fun e w' => e = .returned (.tuple #[.agg #[.int .i64 (readC s.data.toList).1.office, .int .i64 (readC s.data.toList).1.hour, .int .i64 (readC s.data.toList).1.inn, .int .i64 (readC s.data.toList).1.out, .int .i64 (readC s.data.toList).1.store, .string (readC s.data.toList).1.prev, .int .i64 (readC s.data.toList).1.e, .int .i64 (readC s.data.toList).1.s], .bool (readC s.data.toList).2]) ∧ Below w.heap.size w w' := by
  obtain ⟨x0, st1, e1⟩ : ∃ n t, opInt (some s.data.toList) = (n, t) := ⟨_, _, rfl⟩
  obtain ⟨x1, st2, e2⟩ : ∃ n t, opInt st1 = (n, t) := ⟨_, _, rfl⟩
  obtain ⟨x2, st3, e3⟩ : ∃ n t, opInt st2 = (n, t) := ⟨_, _, rfl⟩
  obtain ⟨x3, st4, e4⟩ : ∃ n t, opInt st3 = (n, t) := ⟨_, _, rfl⟩
  obtain ⟨x4, st5, e5⟩ : ∃ n t, opInt st4 = (n, t) := ⟨_, _, rfl⟩
  obtain ⟨Tl, st6, e6⟩ : ∃ n t, opText st5 = (n, t) := ⟨_, _, rfl⟩
  obtain ⟨x6, st7, e7⟩ : ∃ n t, opInt st6 = (n, t) := ⟨_, _, rfl⟩
  obtain ⟨x7, st8, e8⟩ : ∃ n t, opInt st7 = (n, t) := ⟨_, _, rfl⟩
  have hcalls : callsC (some s.data.toList) = (⟨x0, x1, x2, x3, x4, ⟨Tl.toArray⟩, x6, x7⟩, st8) := by simp [callsC, e1, e2, e3, e4, e5, e6, e7, e8]
  have HRG : Hid (readC s.data.toList = if doneOf st8 = true then (⟨x0, x1, x2, x3, x4, ⟨Tl.toArray⟩, x6, x7⟩, true) else (zeroC, false)) := Lib.hid (by unfold readC; rw [hcalls])
  have E1 := Lib.hid e1
  have E2 := Lib.hid e2
  have E3 := Lib.hid e3
  have E4 := Lib.hid e4
  have E5 := Lib.hid e5
  have E6 := Lib.hid e6
  have E7 := Lib.hid e7
  have E8 := Lib.hid e8
  clear hcalls e1 e2 e3 e4 e5 e6 e7 e8
  obtain ⟨T, hT⟩ : ∃ T : ByteArray, T = ⟨Tl.toArray⟩ := ⟨_, rfl⟩
  have HT := Lib.hid hT
  rw [← hT] at HRG
  clear hT
  have hu : Tryz.prog.underlying 43 = some (.struct (Tryz.prog.fieldsOf 43)) := by kernel_rfl
  have hinf : (Tryz.prog.info? 43).map (·.size) = some 8 := by kernel_rfl
  go_enter Tryz.func12, Tryz.ntmps12
  go_wp2_with fail
  have hB0 : Below w.heap.size w (w.alloc (.cells #[.int .i64 0, .int .i64 0, .int .i64 0, .int .i64 0, .int .i64 0, .string ⟨#[]⟩, .int .i64 0, .int .i64 0] 43)) := (Below.refl _ _).alloc (Nat.le_refl _) _
  have h0 := heap_alloc_new w (.cells #[.int .i64 0, .int .i64 0, .int .i64 0, .int .i64 0, .int .i64 0, .string ⟨#[]⟩, .int .i64 0, .int .i64 0] 43)
  generalize w.alloc (.cells #[.int .i64 0, .int .i64 0, .int .i64 0, .int .i64 0, .int .i64 0, .string ⟨#[]⟩, .int .i64 0, .int .i64 0] 43) = w0 at *
  refine (open_any s _ (by omega)).mono ?_
  rintro e w1 ⟨rfl, hr, hb⟩
  have H0 := Lib.hid (blk_below h0 hb (blk_lt h0))
  have HB0 := Lib.hid (hB0.trans (hb.mono hB0.size))
  have hn : w.heap.size < w0.heap.size := blk_lt h0
  generalize w0.heap.size = q at *
  have HR0 := Lib.hid hr
  have hq1 : q < w1.heap.size := rdAt_lt hr
  clear h0 hB0 hb hr
  go_upto_region 3 with fail
  have hb0 := heap_alloc_new w1 (.cells #[.int .i64 0, .int .i64 0, .int .i64 0, .int .i64 0, .int .i64 0, .string ⟨#[]⟩, .int .i64 0, .int .i64 0] 43)
  have hbb : Below w1.heap.size w1 (w1.alloc (.cells #[.int .i64 0, .int .i64 0, .int .i64 0, .int .i64 0, .int .i64 0, .string ⟨#[]⟩, .int .i64 0, .int .i64 0] 43)) := (Below.refl _ _).alloc (Nat.le_refl _) _
  have HR1 := Lib.hid (HR0.out.below hbb hq1)
  have H1 := Lib.hid (blk_below H0.out hbb (blk_lt H0.out))
  have HB1 := Lib.hid (HB0.out.trans (hbb.mono HB0.out.size))
  have HC1 := Lib.hid hb0
  clear hb0 hbb HR0 H0 HB0
  generalize w1.heap.size = b at *
  generalize w1.alloc (.cells #[.int .i64 0, .int .i64 0, .int .i64 0, .int .i64 0, .int .i64 0, .string ⟨#[]⟩, .int .i64 0, .int .i64 0] 43) = w2 at *
  have hb2 : b < w2.heap.size := blk_lt HC1.out
  go_wp2_with fail
  have hp0 := heap_alloc_new w2 (.cells #[.pointer (some ⟨b, 0, none⟩), .pointer (some ⟨b, 1, none⟩), .pointer (some ⟨b, 2, none⟩), .pointer (some ⟨b, 3, none⟩), .pointer (some ⟨b, 4, none⟩)] 90)
  have hbb : Below w2.heap.size w2 (w2.alloc (.cells #[.pointer (some ⟨b, 0, none⟩), .pointer (some ⟨b, 1, none⟩), .pointer (some ⟨b, 2, none⟩), .pointer (some ⟨b, 3, none⟩), .pointer (some ⟨b, 4, none⟩)] 90)) := (Below.refl _ _).alloc (Nat.le_refl _) _
  have HR2 := Lib.hid (HR1.out.below hbb (by omega))
  have H2 := Lib.hid (blk_below H1.out hbb (blk_lt H1.out))
  have HC2 := Lib.hid (blk_below HC1.out hbb (blk_lt HC1.out))
  have HB2 := Lib.hid (HB1.out.trans (hbb.mono HB1.out.size))
  have HP2 := Lib.hid hp0
  clear hp0 hbb HR1 H1 HB1 HC1
  generalize w2.heap.size = pb at *
  generalize w2.alloc (.cells #[.pointer (some ⟨b, 0, none⟩), .pointer (some ⟨b, 1, none⟩), .pointer (some ⟨b, 2, none⟩), .pointer (some ⟨b, 3, none⟩), .pointer (some ⟨b, 4, none⟩)] 90) = w3 at *
  go_loopw [18] (fun iv wr => ∃ k : Nat, k ≤ 5 ∧ iv = .int .i64 k ∧ RdAt q (if k = 0 then some s.data.toList else if k = 1 then st1 else if k = 2 then st2 else if k = 3 then st3 else if k = 4 then st4 else st5) wr ∧ wr.heap[b]? = some (.cells #[.int .i64 (if 0 < k then x0 else 0), .int .i64 (if 1 < k then x1 else 0), .int .i64 (if 2 < k then x2 else 0), .int .i64 (if 3 < k then x3 else 0), .int .i64 (if 4 < k then x4 else 0), .string ⟨#[]⟩, .int .i64 0, .int .i64 0] 43) ∧ wr.heap[pb]? = some (.cells #[.pointer (some ⟨b, 0, none⟩), .pointer (some ⟨b, 1, none⟩), .pointer (some ⟨b, 2, none⟩), .pointer (some ⟨b, 3, none⟩), .pointer (some ⟨b, 4, none⟩)] 90) ∧ wr.heap[w.heap.size]? = some (.cells #[.int .i64 0, .int .i64 0, .int .i64 0, .int .i64 0, .int .i64 0, .string ⟨#[]⟩, .int .i64 0, .int .i64 0] 43) ∧ Below w.heap.size w wr) (fun iv _ => 5 - (Go.RowKit.intOf iv).toNat)
  case atStart => exact ⟨0, by omega, rfl, HR2.out, HC2.out, HP2.out, H2.out, HB2.out⟩
  case round =>
    obtain ⟨k, hk, rfl, hr, hc, hp, hz, hb⟩ := hrel
    rcases (show k = 0 ∨ k = 1 ∨ k = 2 ∨ k = 3 ∨ k = 4 ∨ k = 5 by omega) with rfl | rfl | rfl | rfl | rfl | rfl
    · have HR : Hid (RdAt q (some s.data.toList) wr) := Lib.hid hr
      have HC : Hid (wr.heap[b]? = some (.cells #[.int .i64 0, .int .i64 0, .int .i64 0, .int .i64 0, .int .i64 0, .string ⟨#[]⟩, .int .i64 0, .int .i64 0] 43)) := Lib.hid hc
      have HP := Lib.hid hp
      have HZ := Lib.hid hz
      have HB := Lib.hid hb
      clear hr hc hp hz hb HR2 HC2 HP2 H2 HB2
      have cp : wr.cell? ⟨pb, 0, none⟩ = some (.pointer (some ⟨b, 0, none⟩)) := (cell_of_row _ _ _ _ _ _ HP.out).trans rfl
      go_wp2_with fail
      refine (rdInt_any q _ _ HR.out).mono ?_
      rintro e w4 ⟨he, hr, hg⟩
      rw [E1.out] at he hr
      subst he
      have HR4 := Lib.hid hr
      have HC4 := Lib.hid (row_grown HC.out hg (by omega))
      have HP4 := Lib.hid (row_grown HP.out hg (by omega))
      have HZ4 := Lib.hid (row_grown HZ.out hg (by omega))
      have HB4 := Lib.hid (HB.out.grown hg HB.out.size (fun k e => by cases e; omega))
      clear hr hg HR HC HP HZ HB cp
      have ck : w4.cell? ⟨b, 0, none⟩ = some (.int .i64 0) := (cell_of_row _ _ _ _ _ _ HC4.out).trans rfl
      have fk : w4.frozen? ⟨b, 0, none⟩ = false := frozen_of_row _ _ _ _ _ HC4.out
      have HR5 := Lib.hid (rdAt_set (b := b) (j := 0) (v := .int .i64 x0) HR4.out (by omega))
      have HC5 : Hid ((w4.setCell ⟨b, 0, none⟩ (.int .i64 x0)).heap[b]? = some (.cells #[.int .i64 x0, .int .i64 0, .int .i64 0, .int .i64 0, .int .i64 0, .string ⟨#[]⟩, .int .i64 0, .int .i64 0] 43 (0, 0))) := Lib.hid ((heap_setCell_same _ _ _ _ _ _ HC4.out).trans rfl)
      have HP5 : Hid ((w4.setCell ⟨b, 0, none⟩ (.int .i64 x0)).heap[pb]? = some (.cells #[.pointer (some ⟨b, 0, none⟩), .pointer (some ⟨b, 1, none⟩), .pointer (some ⟨b, 2, none⟩), .pointer (some ⟨b, 3, none⟩), .pointer (some ⟨b, 4, none⟩)] 90)) := Lib.hid ((heap_setCell_other _ _ _ _ (by show pb ≠ b; omega)).trans HP4.out)
      have HZ5 : Hid ((w4.setCell ⟨b, 0, none⟩ (.int .i64 x0)).heap[w.heap.size]? = some (.cells #[.int .i64 0, .int .i64 0, .int .i64 0, .int .i64 0, .int .i64 0, .string ⟨#[]⟩, .int .i64 0, .int .i64 0] 43)) := Lib.hid ((heap_setCell_other _ _ _ _ (by show w.heap.size ≠ b; omega)).trans HZ4.out)
      have HB5 : Hid (Below w.heap.size w (w4.setCell ⟨b, 0, none⟩ (.int .i64 x0))) := Lib.hid (HB4.out.setCell (by show w.heap.size ≤ b; omega) _)
      clear HR4 HC4 HP4 HZ4 HB4
      go_wp2_with fail
      go_roundw
      case rel => exact ⟨1, by omega, by go_num, HR5.out, HC5.out, HP5.out, HZ5.out, HB5.out⟩
      case measure => simp [Go.RowKit.intOf]
    · have HR : Hid (RdAt q st1 wr) := Lib.hid hr
      have HC : Hid (wr.heap[b]? = some (.cells #[.int .i64 x0, .int .i64 0, .int .i64 0, .int .i64 0, .int .i64 0, .string ⟨#[]⟩, .int .i64 0, .int .i64 0] 43)) := Lib.hid hc
      have HP := Lib.hid hp
      have HZ := Lib.hid hz
      have HB := Lib.hid hb
      clear hr hc hp hz hb HR2 HC2 HP2 H2 HB2
      have cp : wr.cell? ⟨pb, 1, none⟩ = some (.pointer (some ⟨b, 1, none⟩)) := (cell_of_row _ _ _ _ _ _ HP.out).trans rfl
      go_wp2_with fail
      refine (rdInt_any q _ _ HR.out).mono ?_
      rintro e w4 ⟨he, hr, hg⟩
      rw [E2.out] at he hr
      subst he
      have HR4 := Lib.hid hr
      have HC4 := Lib.hid (row_grown HC.out hg (by omega))
      have HP4 := Lib.hid (row_grown HP.out hg (by omega))
      have HZ4 := Lib.hid (row_grown HZ.out hg (by omega))
      have HB4 := Lib.hid (HB.out.grown hg HB.out.size (fun k e => by cases e; omega))
      clear hr hg HR HC HP HZ HB cp
      have ck : w4.cell? ⟨b, 1, none⟩ = some (.int .i64 0) := (cell_of_row _ _ _ _ _ _ HC4.out).trans rfl
      have fk : w4.frozen? ⟨b, 1, none⟩ = false := frozen_of_row _ _ _ _ _ HC4.out
      have HR5 := Lib.hid (rdAt_set (b := b) (j := 1) (v := .int .i64 x1) HR4.out (by omega))
      have HC5 : Hid ((w4.setCell ⟨b, 1, none⟩ (.int .i64 x1)).heap[b]? = some (.cells #[.int .i64 x0, .int .i64 x1, .int .i64 0, .int .i64 0, .int .i64 0, .string ⟨#[]⟩, .int .i64 0, .int .i64 0] 43 (0, 0))) := Lib.hid ((heap_setCell_same _ _ _ _ _ _ HC4.out).trans rfl)
      have HP5 : Hid ((w4.setCell ⟨b, 1, none⟩ (.int .i64 x1)).heap[pb]? = some (.cells #[.pointer (some ⟨b, 0, none⟩), .pointer (some ⟨b, 1, none⟩), .pointer (some ⟨b, 2, none⟩), .pointer (some ⟨b, 3, none⟩), .pointer (some ⟨b, 4, none⟩)] 90)) := Lib.hid ((heap_setCell_other _ _ _ _ (by show pb ≠ b; omega)).trans HP4.out)
      have HZ5 : Hid ((w4.setCell ⟨b, 1, none⟩ (.int .i64 x1)).heap[w.heap.size]? = some (.cells #[.int .i64 0, .int .i64 0, .int .i64 0, .int .i64 0, .int .i64 0, .string ⟨#[]⟩, .int .i64 0, .int .i64 0] 43)) := Lib.hid ((heap_setCell_other _ _ _ _ (by show w.heap.size ≠ b; omega)).trans HZ4.out)
      have HB5 : Hid (Below w.heap.size w (w4.setCell ⟨b, 1, none⟩ (.int .i64 x1))) := Lib.hid (HB4.out.setCell (by show w.heap.size ≤ b; omega) _)
      clear HR4 HC4 HP4 HZ4 HB4
      go_wp2_with fail
      go_roundw
      case rel => exact ⟨2, by omega, by go_num, HR5.out, HC5.out, HP5.out, HZ5.out, HB5.out⟩
      case measure => simp [Go.RowKit.intOf]
    · have HR : Hid (RdAt q st2 wr) := Lib.hid hr
      have HC : Hid (wr.heap[b]? = some (.cells #[.int .i64 x0, .int .i64 x1, .int .i64 0, .int .i64 0, .int .i64 0, .string ⟨#[]⟩, .int .i64 0, .int .i64 0] 43)) := Lib.hid hc
      have HP := Lib.hid hp
      have HZ := Lib.hid hz
      have HB := Lib.hid hb
      clear hr hc hp hz hb HR2 HC2 HP2 H2 HB2
      have cp : wr.cell? ⟨pb, 2, none⟩ = some (.pointer (some ⟨b, 2, none⟩)) := (cell_of_row _ _ _ _ _ _ HP.out).trans rfl
      go_wp2_with fail
      refine (rdInt_any q _ _ HR.out).mono ?_
      rintro e w4 ⟨he, hr, hg⟩
      rw [E3.out] at he hr
      subst he
      have HR4 := Lib.hid hr
      have HC4 := Lib.hid (row_grown HC.out hg (by omega))
      have HP4 := Lib.hid (row_grown HP.out hg (by omega))
      have HZ4 := Lib.hid (row_grown HZ.out hg (by omega))
      have HB4 := Lib.hid (HB.out.grown hg HB.out.size (fun k e => by cases e; omega))
      clear hr hg HR HC HP HZ HB cp
      have ck : w4.cell? ⟨b, 2, none⟩ = some (.int .i64 0) := (cell_of_row _ _ _ _ _ _ HC4.out).trans rfl
      have fk : w4.frozen? ⟨b, 2, none⟩ = false := frozen_of_row _ _ _ _ _ HC4.out
      have HR5 := Lib.hid (rdAt_set (b := b) (j := 2) (v := .int .i64 x2) HR4.out (by omega))
      have HC5 : Hid ((w4.setCell ⟨b, 2, none⟩ (.int .i64 x2)).heap[b]? = some (.cells #[.int .i64 x0, .int .i64 x1, .int .i64 x2, .int .i64 0, .int .i64 0, .string ⟨#[]⟩, .int .i64 0, .int .i64 0] 43 (0, 0))) := Lib.hid ((heap_setCell_same _ _ _ _ _ _ HC4.out).trans rfl)
      have HP5 : Hid ((w4.setCell ⟨b, 2, none⟩ (.int .i64 x2)).heap[pb]? = some (.cells #[.pointer (some ⟨b, 0, none⟩), .pointer (some ⟨b, 1, none⟩), .pointer (some ⟨b, 2, none⟩), .pointer (some ⟨b, 3, none⟩), .pointer (some ⟨b, 4, none⟩)] 90)) := Lib.hid ((heap_setCell_other _ _ _ _ (by show pb ≠ b; omega)).trans HP4.out)
      have HZ5 : Hid ((w4.setCell ⟨b, 2, none⟩ (.int .i64 x2)).heap[w.heap.size]? = some (.cells #[.int .i64 0, .int .i64 0, .int .i64 0, .int .i64 0, .int .i64 0, .string ⟨#[]⟩, .int .i64 0, .int .i64 0] 43)) := Lib.hid ((heap_setCell_other _ _ _ _ (by show w.heap.size ≠ b; omega)).trans HZ4.out)
      have HB5 : Hid (Below w.heap.size w (w4.setCell ⟨b, 2, none⟩ (.int .i64 x2))) := Lib.hid (HB4.out.setCell (by show w.heap.size ≤ b; omega) _)
      clear HR4 HC4 HP4 HZ4 HB4
      go_wp2_with fail
      go_roundw
      case rel => exact ⟨3, by omega, by go_num, HR5.out, HC5.out, HP5.out, HZ5.out, HB5.out⟩
      case measure => simp [Go.RowKit.intOf]
    · have HR : Hid (RdAt q st3 wr) := Lib.hid hr
      have HC : Hid (wr.heap[b]? = some (.cells #[.int .i64 x0, .int .i64 x1, .int .i64 x2, .int .i64 0, .int .i64 0, .string ⟨#[]⟩, .int .i64 0, .int .i64 0] 43)) := Lib.hid hc
      have HP := Lib.hid hp
      have HZ := Lib.hid hz
      have HB := Lib.hid hb
      clear hr hc hp hz hb HR2 HC2 HP2 H2 HB2
      have cp : wr.cell? ⟨pb, 3, none⟩ = some (.pointer (some ⟨b, 3, none⟩)) := (cell_of_row _ _ _ _ _ _ HP.out).trans rfl
      go_wp2_with fail
      refine (rdInt_any q _ _ HR.out).mono ?_
      rintro e w4 ⟨he, hr, hg⟩
      rw [E4.out] at he hr
      subst he
      have HR4 := Lib.hid hr
      have HC4 := Lib.hid (row_grown HC.out hg (by omega))
      have HP4 := Lib.hid (row_grown HP.out hg (by omega))
      have HZ4 := Lib.hid (row_grown HZ.out hg (by omega))
      have HB4 := Lib.hid (HB.out.grown hg HB.out.size (fun k e => by cases e; omega))
      clear hr hg HR HC HP HZ HB cp
      have ck : w4.cell? ⟨b, 3, none⟩ = some (.int .i64 0) := (cell_of_row _ _ _ _ _ _ HC4.out).trans rfl
      have fk : w4.frozen? ⟨b, 3, none⟩ = false := frozen_of_row _ _ _ _ _ HC4.out
      have HR5 := Lib.hid (rdAt_set (b := b) (j := 3) (v := .int .i64 x3) HR4.out (by omega))
      have HC5 : Hid ((w4.setCell ⟨b, 3, none⟩ (.int .i64 x3)).heap[b]? = some (.cells #[.int .i64 x0, .int .i64 x1, .int .i64 x2, .int .i64 x3, .int .i64 0, .string ⟨#[]⟩, .int .i64 0, .int .i64 0] 43 (0, 0))) := Lib.hid ((heap_setCell_same _ _ _ _ _ _ HC4.out).trans rfl)
      have HP5 : Hid ((w4.setCell ⟨b, 3, none⟩ (.int .i64 x3)).heap[pb]? = some (.cells #[.pointer (some ⟨b, 0, none⟩), .pointer (some ⟨b, 1, none⟩), .pointer (some ⟨b, 2, none⟩), .pointer (some ⟨b, 3, none⟩), .pointer (some ⟨b, 4, none⟩)] 90)) := Lib.hid ((heap_setCell_other _ _ _ _ (by show pb ≠ b; omega)).trans HP4.out)
      have HZ5 : Hid ((w4.setCell ⟨b, 3, none⟩ (.int .i64 x3)).heap[w.heap.size]? = some (.cells #[.int .i64 0, .int .i64 0, .int .i64 0, .int .i64 0, .int .i64 0, .string ⟨#[]⟩, .int .i64 0, .int .i64 0] 43)) := Lib.hid ((heap_setCell_other _ _ _ _ (by show w.heap.size ≠ b; omega)).trans HZ4.out)
      have HB5 : Hid (Below w.heap.size w (w4.setCell ⟨b, 3, none⟩ (.int .i64 x3))) := Lib.hid (HB4.out.setCell (by show w.heap.size ≤ b; omega) _)
      clear HR4 HC4 HP4 HZ4 HB4
      go_wp2_with fail
      go_roundw
      case rel => exact ⟨4, by omega, by go_num, HR5.out, HC5.out, HP5.out, HZ5.out, HB5.out⟩
      case measure => simp [Go.RowKit.intOf]
    · have HR : Hid (RdAt q st4 wr) := Lib.hid hr
      have HC : Hid (wr.heap[b]? = some (.cells #[.int .i64 x0, .int .i64 x1, .int .i64 x2, .int .i64 x3, .int .i64 0, .string ⟨#[]⟩, .int .i64 0, .int .i64 0] 43)) := Lib.hid hc
      have HP := Lib.hid hp
      have HZ := Lib.hid hz
      have HB := Lib.hid hb
      clear hr hc hp hz hb HR2 HC2 HP2 H2 HB2
      have cp : wr.cell? ⟨pb, 4, none⟩ = some (.pointer (some ⟨b, 4, none⟩)) := (cell_of_row _ _ _ _ _ _ HP.out).trans rfl
      go_wp2_with fail
      refine (rdInt_any q _ _ HR.out).mono ?_
      rintro e w4 ⟨he, hr, hg⟩
      rw [E5.out] at he hr
      subst he
      have HR4 := Lib.hid hr
      have HC4 := Lib.hid (row_grown HC.out hg (by omega))
      have HP4 := Lib.hid (row_grown HP.out hg (by omega))
      have HZ4 := Lib.hid (row_grown HZ.out hg (by omega))
      have HB4 := Lib.hid (HB.out.grown hg HB.out.size (fun k e => by cases e; omega))
      clear hr hg HR HC HP HZ HB cp
      have ck : w4.cell? ⟨b, 4, none⟩ = some (.int .i64 0) := (cell_of_row _ _ _ _ _ _ HC4.out).trans rfl
      have fk : w4.frozen? ⟨b, 4, none⟩ = false := frozen_of_row _ _ _ _ _ HC4.out
      have HR5 := Lib.hid (rdAt_set (b := b) (j := 4) (v := .int .i64 x4) HR4.out (by omega))
      have HC5 : Hid ((w4.setCell ⟨b, 4, none⟩ (.int .i64 x4)).heap[b]? = some (.cells #[.int .i64 x0, .int .i64 x1, .int .i64 x2, .int .i64 x3, .int .i64 x4, .string ⟨#[]⟩, .int .i64 0, .int .i64 0] 43 (0, 0))) := Lib.hid ((heap_setCell_same _ _ _ _ _ _ HC4.out).trans rfl)
      have HP5 : Hid ((w4.setCell ⟨b, 4, none⟩ (.int .i64 x4)).heap[pb]? = some (.cells #[.pointer (some ⟨b, 0, none⟩), .pointer (some ⟨b, 1, none⟩), .pointer (some ⟨b, 2, none⟩), .pointer (some ⟨b, 3, none⟩), .pointer (some ⟨b, 4, none⟩)] 90)) := Lib.hid ((heap_setCell_other _ _ _ _ (by show pb ≠ b; omega)).trans HP4.out)
      have HZ5 : Hid ((w4.setCell ⟨b, 4, none⟩ (.int .i64 x4)).heap[w.heap.size]? = some (.cells #[.int .i64 0, .int .i64 0, .int .i64 0, .int .i64 0, .int .i64 0, .string ⟨#[]⟩, .int .i64 0, .int .i64 0] 43)) := Lib.hid ((heap_setCell_other _ _ _ _ (by show w.heap.size ≠ b; omega)).trans HZ4.out)
      have HB5 : Hid (Below w.heap.size w (w4.setCell ⟨b, 4, none⟩ (.int .i64 x4))) := Lib.hid (HB4.out.setCell (by show w.heap.size ≤ b; omega) _)
      clear HR4 HC4 HP4 HZ4 HB4
      go_wp2_with fail
      go_roundw
      case rel => exact ⟨5, by omega, by go_num, HR5.out, HC5.out, HP5.out, HZ5.out, HB5.out⟩
      case measure => simp [Go.RowKit.intOf]
    · have HR : Hid (RdAt q st5 wr) := Lib.hid hr
      have HC : Hid (wr.heap[b]? = some (.cells #[.int .i64 x0, .int .i64 x1, .int .i64 x2, .int .i64 x3, .int .i64 x4, .string ⟨#[]⟩, .int .i64 0, .int .i64 0] 43 (0, 0))) := Lib.hid hc
      have HZ : Hid (wr.heap[w.heap.size]? = some (.cells #[.int .i64 0, .int .i64 0, .int .i64 0, .int .i64 0, .int .i64 0, .string ⟨#[]⟩, .int .i64 0, .int .i64 0] 43 (0, 0))) := Lib.hid hz
      have HB := Lib.hid hb
      clear hr hc hp hz hb HR2 HC2 HP2 H2 HB2
      go_wp2_with fail
      refine (rdText_any q _ _ HR.out).mono ?_
      rintro e w20 ⟨he, hr, hg⟩
      rw [E6.out] at he hr
      simp only at he
      rw [← HT.out] at he
      subst he
      have HRx := Lib.hid hr
      have HCx := Lib.hid (row_grown HC.out hg (by omega))
      have HZx := Lib.hid (row_grown HZ.out hg (by omega))
      have HBx := Lib.hid (HB.out.grown hg HB.out.size (fun k e => by cases e; omega))
      clear hr hg HR HC HZ HB
      have ck : w20.cell? ⟨b, 5, none⟩ = some (.string ⟨#[]⟩) := (cell_of_row _ _ _ _ _ _ HCx.out).trans rfl
      have fk : w20.frozen? ⟨b, 5, none⟩ = false := frozen_of_row _ _ _ _ _ HCx.out
      have HR_5 := Lib.hid (rdAt_set (b := b) (j := 5) (v := .string T) HRx.out (by omega))
      have HC_5 : Hid ((w20.setCell ⟨b, 5, none⟩ (.string T)).heap[b]? = some (.cells #[.int .i64 x0, .int .i64 x1, .int .i64 x2, .int .i64 x3, .int .i64 x4, .string T, .int .i64 0, .int .i64 0] 43 (0, 0))) := Lib.hid ((heap_setCell_same _ _ _ _ _ _ HCx.out).trans rfl)
      have HZ_5 : Hid ((w20.setCell ⟨b, 5, none⟩ (.string T)).heap[w.heap.size]? = some (.cells #[.int .i64 0, .int .i64 0, .int .i64 0, .int .i64 0, .int .i64 0, .string ⟨#[]⟩, .int .i64 0, .int .i64 0] 43 (0, 0))) := Lib.hid ((heap_setCell_other _ _ _ _ (by show w.heap.size ≠ b; omega)).trans HZx.out)
      have HB_5 : Hid (Below w.heap.size w (w20.setCell ⟨b, 5, none⟩ (.string T))) := Lib.hid (HBx.out.setCell (by show w.heap.size ≤ b; omega) _)
      clear HRx HCx HZx HBx
      go_upto_region 9 with fail
      generalize (w20.setCell ⟨b, 5, none⟩ (.string T)) = w21 at *
      clear ck fk
      go_wp2_with fail
      refine (rdInt_any q _ _ HR_5.out).mono ?_
      rintro e w22 ⟨he, hr, hg⟩
      rw [E7.out] at he hr
      subst he
      have HRx := Lib.hid hr
      have HCx := Lib.hid (row_grown HC_5.out hg (by omega))
      have HZx := Lib.hid (row_grown HZ_5.out hg (by omega))
      have HBx := Lib.hid (HB_5.out.grown hg HB_5.out.size (fun k e => by cases e; omega))
      clear hr hg HR_5 HC_5 HZ_5 HB_5
      have ck : w22.cell? ⟨b, 6, none⟩ = some (.int .i64 0) := (cell_of_row _ _ _ _ _ _ HCx.out).trans rfl
      have fk : w22.frozen? ⟨b, 6, none⟩ = false := frozen_of_row _ _ _ _ _ HCx.out
      have HR_6 := Lib.hid (rdAt_set (b := b) (j := 6) (v := .int .i64 x6) HRx.out (by omega))
      have HC_6 : Hid ((w22.setCell ⟨b, 6, none⟩ (.int .i64 x6)).heap[b]? = some (.cells #[.int .i64 x0, .int .i64 x1, .int .i64 x2, .int .i64 x3, .int .i64 x4, .string T, .int .i64 x6, .int .i64 0] 43 (0, 0))) := Lib.hid ((heap_setCell_same _ _ _ _ _ _ HCx.out).trans rfl)
      have HZ_6 : Hid ((w22.setCell ⟨b, 6, none⟩ (.int .i64 x6)).heap[w.heap.size]? = some (.cells #[.int .i64 0, .int .i64 0, .int .i64 0, .int .i64 0, .int .i64 0, .string ⟨#[]⟩, .int .i64 0, .int .i64 0] 43 (0, 0))) := Lib.hid ((heap_setCell_other _ _ _ _ (by show w.heap.size ≠ b; omega)).trans HZx.out)
      have HB_6 : Hid (Below w.heap.size w (w22.setCell ⟨b, 6, none⟩ (.int .i64 x6))) := Lib.hid (HBx.out.setCell (by show w.heap.size ≤ b; omega) _)
      clear HRx HCx HZx HBx
      go_upto_region 10 with fail
      generalize (w22.setCell ⟨b, 6, none⟩ (.int .i64 x6)) = w23 at *
      clear ck fk
      go_wp2_with fail
      refine (rdInt_any q _ _ HR_6.out).mono ?_
      rintro e w24 ⟨he, hr, hg⟩
      rw [E8.out] at he hr
      subst he
      have HRx := Lib.hid hr
      have HCx := Lib.hid (row_grown HC_6.out hg (by omega))
      have HZx := Lib.hid (row_grown HZ_6.out hg (by omega))
      have HBx := Lib.hid (HB_6.out.grown hg HB_6.out.size (fun k e => by cases e; omega))
      clear hr hg HR_6 HC_6 HZ_6 HB_6
      have ck : w24.cell? ⟨b, 7, none⟩ = some (.int .i64 0) := (cell_of_row _ _ _ _ _ _ HCx.out).trans rfl
      have fk : w24.frozen? ⟨b, 7, none⟩ = false := frozen_of_row _ _ _ _ _ HCx.out
      have HR_7 := Lib.hid (rdAt_set (b := b) (j := 7) (v := .int .i64 x7) HRx.out (by omega))
      have HC_7 : Hid ((w24.setCell ⟨b, 7, none⟩ (.int .i64 x7)).heap[b]? = some (.cells #[.int .i64 x0, .int .i64 x1, .int .i64 x2, .int .i64 x3, .int .i64 x4, .string T, .int .i64 x6, .int .i64 x7] 43 (0, 0))) := Lib.hid ((heap_setCell_same _ _ _ _ _ _ HCx.out).trans rfl)
      have HZ_7 : Hid ((w24.setCell ⟨b, 7, none⟩ (.int .i64 x7)).heap[w.heap.size]? = some (.cells #[.int .i64 0, .int .i64 0, .int .i64 0, .int .i64 0, .int .i64 0, .string ⟨#[]⟩, .int .i64 0, .int .i64 0] 43 (0, 0))) := Lib.hid ((heap_setCell_other _ _ _ _ (by show w.heap.size ≠ b; omega)).trans HZx.out)
      have HB_7 : Hid (Below w.heap.size w (w24.setCell ⟨b, 7, none⟩ (.int .i64 x7))) := Lib.hid (HBx.out.setCell (by show w.heap.size ≤ b; omega) _)
      clear HRx HCx HZx HBx
      go_upto_region 11 with fail
      generalize (w24.setCell ⟨b, 7, none⟩ (.int .i64 x7)) = w25 at *
      clear ck fk
      go_wp2_with fail
      refine (rdDone_any q _ _ HR_7.out).mono ?_
      rintro e w8 ⟨rfl, rfl⟩
      by_cases hd : doneOf st8 = true
      · have HE : Hid (readC s.data.toList = (⟨x0, x1, x2, x3, x4, T, x6, x7⟩, true)) := Lib.hid (HRG.out.trans (if_pos hd))
        rw [hd]
        clear hd
        go_wp2_with (first | (refine wpList_load_row rfl 43 _ rfl _ rfl 43 _ _ _ HC_7.out hu rfl hinf ?_) | (refine wpList_store_row rfl 43 _ _ rfl w.heap.size #[.int .i64 x0, .int .i64 x1, .int .i64 x2, .int .i64 x3, .int .i64 x4, .string T, .int .i64 x6, .int .i64 x7] rfl rfl 43 _ HZ_7.out hinf rfl (by simp [Value.oneCell']) ?_))
        refine bodyPost_ret (v := .tuple #[.agg #[.int .i64 x0, .int .i64 x1, .int .i64 x2, .int .i64 x3, .int .i64 x4, .string T, .int .i64 x6, .int .i64 x7], .bool true]) ?_ rfl ⟨by rw [HE.out], ?_⟩
        · exact Eq.trans (results_row_tmp rfl _ _ w.heap.size 43 #[.int .i64 x0, .int .i64 x1, .int .i64 x2, .int .i64 x3, .int .i64 x4, .string T, .int .i64 x6, .int .i64 x7] (0, 0) _ rfl (setRow_heap _ _ _ _ _ _ HZ_7.out) hu rfl hinf) rfl
        · exact below_setRow HB_7.out (Nat.le_refl _) _
      · have HE : Hid (readC s.data.toList = (zeroC, false)) := Lib.hid (HRG.out.trans (if_neg hd))
        have hd2 : doneOf st8 = false := by simpa using hd
        rw [hd2]
        clear hd hd2
        go_wp2_with (refine wpList_store_row rfl 43 _ _ rfl w.heap.size #[.int .i64 0, .int .i64 0, .int .i64 0, .int .i64 0, .int .i64 0, .string ⟨#[]⟩, .int .i64 0, .int .i64 0] rfl rfl 43 _ HZ_7.out hinf rfl (by simp [Value.oneCell']) ?_)
        refine bodyPost_ret (v := .tuple #[.agg #[.int .i64 0, .int .i64 0, .int .i64 0, .int .i64 0, .int .i64 0, .string ⟨#[]⟩, .int .i64 0, .int .i64 0], .bool false]) ?_ rfl ⟨by rw [HE.out]; rfl, ?_⟩
        · exact Eq.trans (results_row_tmp rfl _ _ w.heap.size 43 #[.int .i64 0, .int .i64 0, .int .i64 0, .int .i64 0, .int .i64 0, .string ⟨#[]⟩, .int .i64 0, .int .i64 0] (0, 0) _ rfl (setRow_heap _ _ _ _ _ _ HZ_7.out) hu rfl hinf) rfl
        · exact below_setRow HB_7.out (Nat.le_refl _) _
set_option maxRecDepth 100000 in
set_option maxHeartbeats 2000000 in
theorem readP_any (s : ByteArray) (w : World) (hs : s.size ≤ 10000) :
    Calls Tryz.prog 16 #[.string s] w fun e w' => e = .returned (.tuple #[.agg #[.int .i64 (readP s.data.toList).1.office, .int .i64 (readP s.data.toList).1.since, .int .i64 (readP s.data.toList).1.till, .int .i64 (readP s.data.toList).1.litres, .int .i64 (readP s.data.toList).1.e, .int .i64 (readP s.data.toList).1.s], .bool (readP s.data.toList).2]) ∧ Below w.heap.size w w' := by
  obtain ⟨x0, st1, e1⟩ : ∃ n t, opInt (some s.data.toList) = (n, t) := ⟨_, _, rfl⟩
  obtain ⟨x1, st2, e2⟩ : ∃ n t, opInt st1 = (n, t) := ⟨_, _, rfl⟩
  obtain ⟨x2, st3, e3⟩ : ∃ n t, opInt st2 = (n, t) := ⟨_, _, rfl⟩
  obtain ⟨x3, st4, e4⟩ : ∃ n t, opInt st3 = (n, t) := ⟨_, _, rfl⟩
  obtain ⟨x4, st5, e5⟩ : ∃ n t, opInt st4 = (n, t) := ⟨_, _, rfl⟩
  obtain ⟨x5, st6, e6⟩ : ∃ n t, opInt st5 = (n, t) := ⟨_, _, rfl⟩
  have hcalls : callsP (some s.data.toList) = (⟨x0, x1, x2, x3, x4, x5⟩, st6) := by simp [callsP, e1, e2, e3, e4, e5, e6]
  have HRG : Hid (readP s.data.toList = if doneOf st6 = true then (⟨x0, x1, x2, x3, x4, x5⟩, true) else (zeroP, false)) := Lib.hid (by unfold readP; rw [hcalls])
  have E1 := Lib.hid e1
  have E2 := Lib.hid e2
  have E3 := Lib.hid e3
  have E4 := Lib.hid e4
  have E5 := Lib.hid e5
  have E6 := Lib.hid e6
  clear hcalls e1 e2 e3 e4 e5 e6
  have hu : Tryz.prog.underlying 58 = some (.struct (Tryz.prog.fieldsOf 58)) := by kernel_rfl
  have hinf : (Tryz.prog.info? 58).map (·.size) = some 6 := by kernel_rfl
  go_enter Tryz.func16, Tryz.ntmps16
  go_wp2_with fail
  have hB0 : Below w.heap.size w (w.alloc (.cells #[.int .i64 0, .int .i64 0, .int .i64 0, .int .i64 0, .int .i64 0, .int .i64 0] 58)) := (Below.refl _ _).alloc (Nat.le_refl _) _
  have h0 := heap_alloc_new w (.cells #[.int .i64 0, .int .i64 0, .int .i64 0, .int .i64 0, .int .i64 0, .int .i64 0] 58)
  generalize w.alloc (.cells #[.int .i64 0, .int .i64 0, .int .i64 0, .int .i64 0, .int .i64 0, .int .i64 0] 58) = w0 at *
  refine (open_any s _ (by omega)).mono ?_
  rintro e w1 ⟨rfl, hr, hb⟩
  have H0 := Lib.hid (blk_below h0 hb (blk_lt h0))
  have HB0 := Lib.hid (hB0.trans (hb.mono hB0.size))
  have hn : w.heap.size < w0.heap.size := blk_lt h0
  generalize w0.heap.size = q at *
  have HR0 := Lib.hid hr
  have hq1 : q < w1.heap.size := rdAt_lt hr
  clear h0 hB0 hb hr
  go_upto_region 3 with fail
  have hb0 := heap_alloc_new w1 (.cells #[.int .i64 0, .int .i64 0, .int .i64 0, .int .i64 0, .int .i64 0, .int .i64 0] 58)
  have hbb : Below w1.heap.size w1 (w1.alloc (.cells #[.int .i64 0, .int .i64 0, .int .i64 0, .int .i64 0, .int .i64 0, .int .i64 0] 58)) := (Below.refl _ _).alloc (Nat.le_refl _) _
  have HR1 := Lib.hid (HR0.out.below hbb hq1)
  have H1 := Lib.hid (blk_below H0.out hbb (blk_lt H0.out))
  have HB1 := Lib.hid (HB0.out.trans (hbb.mono HB0.out.size))
  have HC1 := Lib.hid hb0
  clear hb0 hbb HR0 H0 HB0
  generalize w1.heap.size = b at *
  generalize w1.alloc (.cells #[.int .i64 0, .int .i64 0, .int .i64 0, .int .i64 0, .int .i64 0, .int .i64 0] 58) = w2 at *
  have hb2 : b < w2.heap.size := blk_lt HC1.out
  go_wp2_with fail
  have hp0 := heap_alloc_new w2 (.cells #[.pointer (some ⟨b, 0, none⟩), .pointer (some ⟨b, 1, none⟩), .pointer (some ⟨b, 2, none⟩), .pointer (some ⟨b, 3, none⟩), .pointer (some ⟨b, 4, none⟩), .pointer (some ⟨b, 5, none⟩)] 90)
  have hbb : Below w2.heap.size w2 (w2.alloc (.cells #[.pointer (some ⟨b, 0, none⟩), .pointer (some ⟨b, 1, none⟩), .pointer (some ⟨b, 2, none⟩), .pointer (some ⟨b, 3, none⟩), .pointer (some ⟨b, 4, none⟩), .pointer (some ⟨b, 5, none⟩)] 90)) := (Below.refl _ _).alloc (Nat.le_refl _) _
  have HR2 := Lib.hid (HR1.out.below hbb (by omega))
  have H2 := Lib.hid (blk_below H1.out hbb (blk_lt H1.out))
  have HC2 := Lib.hid (blk_below HC1.out hbb (blk_lt HC1.out))
  have HB2 := Lib.hid (HB1.out.trans (hbb.mono HB1.out.size))
  have HP2 := Lib.hid hp0
  clear hp0 hbb HR1 H1 HB1 HC1
  generalize w2.heap.size = pb at *
  generalize w2.alloc (.cells #[.pointer (some ⟨b, 0, none⟩), .pointer (some ⟨b, 1, none⟩), .pointer (some ⟨b, 2, none⟩), .pointer (some ⟨b, 3, none⟩), .pointer (some ⟨b, 4, none⟩), .pointer (some ⟨b, 5, none⟩)] 90) = w3 at *
  go_loopw [21] (fun iv wr => ∃ k : Nat, k ≤ 6 ∧ iv = .int .i64 k ∧ RdAt q (if k = 0 then some s.data.toList else if k = 1 then st1 else if k = 2 then st2 else if k = 3 then st3 else if k = 4 then st4 else if k = 5 then st5 else st6) wr ∧ wr.heap[b]? = some (.cells #[.int .i64 (if 0 < k then x0 else 0), .int .i64 (if 1 < k then x1 else 0), .int .i64 (if 2 < k then x2 else 0), .int .i64 (if 3 < k then x3 else 0), .int .i64 (if 4 < k then x4 else 0), .int .i64 (if 5 < k then x5 else 0)] 58) ∧ wr.heap[pb]? = some (.cells #[.pointer (some ⟨b, 0, none⟩), .pointer (some ⟨b, 1, none⟩), .pointer (some ⟨b, 2, none⟩), .pointer (some ⟨b, 3, none⟩), .pointer (some ⟨b, 4, none⟩), .pointer (some ⟨b, 5, none⟩)] 90) ∧ wr.heap[w.heap.size]? = some (.cells #[.int .i64 0, .int .i64 0, .int .i64 0, .int .i64 0, .int .i64 0, .int .i64 0] 58) ∧ Below w.heap.size w wr) (fun iv _ => 6 - (Go.RowKit.intOf iv).toNat)
  case atStart => exact ⟨0, by omega, rfl, HR2.out, HC2.out, HP2.out, H2.out, HB2.out⟩
  case round =>
    obtain ⟨k, hk, rfl, hr, hc, hp, hz, hb⟩ := hrel
    rcases (show k = 0 ∨ k = 1 ∨ k = 2 ∨ k = 3 ∨ k = 4 ∨ k = 5 ∨ k = 6 by omega) with rfl | rfl | rfl | rfl | rfl | rfl | rfl
    · have HR : Hid (RdAt q (some s.data.toList) wr) := Lib.hid hr
      have HC : Hid (wr.heap[b]? = some (.cells #[.int .i64 0, .int .i64 0, .int .i64 0, .int .i64 0, .int .i64 0, .int .i64 0] 58)) := Lib.hid hc
      have HP := Lib.hid hp
      have HZ := Lib.hid hz
      have HB := Lib.hid hb
      clear hr hc hp hz hb HR2 HC2 HP2 H2 HB2
      have cp : wr.cell? ⟨pb, 0, none⟩ = some (.pointer (some ⟨b, 0, none⟩)) := (cell_of_row _ _ _ _ _ _ HP.out).trans rfl
      go_wp2_with fail
      refine (rdInt_any q _ _ HR.out).mono ?_
      rintro e w4 ⟨he, hr, hg⟩
      rw [E1.out] at he hr
      subst he
      have HR4 := Lib.hid hr
      have HC4 := Lib.hid (row_grown HC.out hg (by omega))
      have HP4 := Lib.hid (row_grown HP.out hg (by omega))
      have HZ4 := Lib.hid (row_grown HZ.out hg (by omega))
      have HB4 := Lib.hid (HB.out.grown hg HB.out.size (fun k e => by cases e; omega))
      clear hr hg HR HC HP HZ HB cp
      have ck : w4.cell? ⟨b, 0, none⟩ = some (.int .i64 0) := (cell_of_row _ _ _ _ _ _ HC4.out).trans rfl
      have fk : w4.frozen? ⟨b, 0, none⟩ = false := frozen_of_row _ _ _ _ _ HC4.out
      have HR5 := Lib.hid (rdAt_set (b := b) (j := 0) (v := .int .i64 x0) HR4.out (by omega))
      have HC5 : Hid ((w4.setCell ⟨b, 0, none⟩ (.int .i64 x0)).heap[b]? = some (.cells #[.int .i64 x0, .int .i64 0, .int .i64 0, .int .i64 0, .int .i64 0, .int .i64 0] 58 (0, 0))) := Lib.hid ((heap_setCell_same _ _ _ _ _ _ HC4.out).trans rfl)
      have HP5 : Hid ((w4.setCell ⟨b, 0, none⟩ (.int .i64 x0)).heap[pb]? = some (.cells #[.pointer (some ⟨b, 0, none⟩), .pointer (some ⟨b, 1, none⟩), .pointer (some ⟨b, 2, none⟩), .pointer (some ⟨b, 3, none⟩), .pointer (some ⟨b, 4, none⟩), .pointer (some ⟨b, 5, none⟩)] 90)) := Lib.hid ((heap_setCell_other _ _ _ _ (by show pb ≠ b; omega)).trans HP4.out)
      have HZ5 : Hid ((w4.setCell ⟨b, 0, none⟩ (.int .i64 x0)).heap[w.heap.size]? = some (.cells #[.int .i64 0, .int .i64 0, .int .i64 0, .int .i64 0, .int .i64 0, .int .i64 0] 58)) := Lib.hid ((heap_setCell_other _ _ _ _ (by show w.heap.size ≠ b; omega)).trans HZ4.out)
      have HB5 : Hid (Below w.heap.size w (w4.setCell ⟨b, 0, none⟩ (.int .i64 x0))) := Lib.hid (HB4.out.setCell (by show w.heap.size ≤ b; omega) _)
      clear HR4 HC4 HP4 HZ4 HB4
      go_wp2_with fail
      go_roundw
      case rel => exact ⟨1, by omega, by go_num, HR5.out, HC5.out, HP5.out, HZ5.out, HB5.out⟩
      case measure => simp [Go.RowKit.intOf]
    · have HR : Hid (RdAt q st1 wr) := Lib.hid hr
      have HC : Hid (wr.heap[b]? = some (.cells #[.int .i64 x0, .int .i64 0, .int .i64 0, .int .i64 0, .int .i64 0, .int .i64 0] 58)) := Lib.hid hc
      have HP := Lib.hid hp
      have HZ := Lib.hid hz
      have HB := Lib.hid hb
      clear hr hc hp hz hb HR2 HC2 HP2 H2 HB2
      have cp : wr.cell? ⟨pb, 1, none⟩ = some (.pointer (some ⟨b, 1, none⟩)) := (cell_of_row _ _ _ _ _ _ HP.out).trans rfl
      go_wp2_with fail
      refine (rdInt_any q _ _ HR.out).mono ?_
      rintro e w4 ⟨he, hr, hg⟩
      rw [E2.out] at he hr
      subst he
      have HR4 := Lib.hid hr
      have HC4 := Lib.hid (row_grown HC.out hg (by omega))
      have HP4 := Lib.hid (row_grown HP.out hg (by omega))
      have HZ4 := Lib.hid (row_grown HZ.out hg (by omega))
      have HB4 := Lib.hid (HB.out.grown hg HB.out.size (fun k e => by cases e; omega))
      clear hr hg HR HC HP HZ HB cp
      have ck : w4.cell? ⟨b, 1, none⟩ = some (.int .i64 0) := (cell_of_row _ _ _ _ _ _ HC4.out).trans rfl
      have fk : w4.frozen? ⟨b, 1, none⟩ = false := frozen_of_row _ _ _ _ _ HC4.out
      have HR5 := Lib.hid (rdAt_set (b := b) (j := 1) (v := .int .i64 x1) HR4.out (by omega))
      have HC5 : Hid ((w4.setCell ⟨b, 1, none⟩ (.int .i64 x1)).heap[b]? = some (.cells #[.int .i64 x0, .int .i64 x1, .int .i64 0, .int .i64 0, .int .i64 0, .int .i64 0] 58 (0, 0))) := Lib.hid ((heap_setCell_same _ _ _ _ _ _ HC4.out).trans rfl)
      have HP5 : Hid ((w4.setCell ⟨b, 1, none⟩ (.int .i64 x1)).heap[pb]? = some (.cells #[.pointer (some ⟨b, 0, none⟩), .pointer (some ⟨b, 1, none⟩), .pointer (some ⟨b, 2, none⟩), .pointer (some ⟨b, 3, none⟩), .pointer (some ⟨b, 4, none⟩), .pointer (some ⟨b, 5, none⟩)] 90)) := Lib.hid ((heap_setCell_other _ _ _ _ (by show pb ≠ b; omega)).trans HP4.out)
      have HZ5 : Hid ((w4.setCell ⟨b, 1, none⟩ (.int .i64 x1)).heap[w.heap.size]? = some (.cells #[.int .i64 0, .int .i64 0, .int .i64 0, .int .i64 0, .int .i64 0, .int .i64 0] 58)) := Lib.hid ((heap_setCell_other _ _ _ _ (by show w.heap.size ≠ b; omega)).trans HZ4.out)
      have HB5 : Hid (Below w.heap.size w (w4.setCell ⟨b, 1, none⟩ (.int .i64 x1))) := Lib.hid (HB4.out.setCell (by show w.heap.size ≤ b; omega) _)
      clear HR4 HC4 HP4 HZ4 HB4
      go_wp2_with fail
      go_roundw
      case rel => exact ⟨2, by omega, by go_num, HR5.out, HC5.out, HP5.out, HZ5.out, HB5.out⟩
      case measure => simp [Go.RowKit.intOf]
    · have HR : Hid (RdAt q st2 wr) := Lib.hid hr
      have HC : Hid (wr.heap[b]? = some (.cells #[.int .i64 x0, .int .i64 x1, .int .i64 0, .int .i64 0, .int .i64 0, .int .i64 0] 58)) := Lib.hid hc
      have HP := Lib.hid hp
      have HZ := Lib.hid hz
      have HB := Lib.hid hb
      clear hr hc hp hz hb HR2 HC2 HP2 H2 HB2
      have cp : wr.cell? ⟨pb, 2, none⟩ = some (.pointer (some ⟨b, 2, none⟩)) := (cell_of_row _ _ _ _ _ _ HP.out).trans rfl
      go_wp2_with fail
      refine (rdInt_any q _ _ HR.out).mono ?_
      rintro e w4 ⟨he, hr, hg⟩
      rw [E3.out] at he hr
      subst he
      have HR4 := Lib.hid hr
      have HC4 := Lib.hid (row_grown HC.out hg (by omega))
      have HP4 := Lib.hid (row_grown HP.out hg (by omega))
      have HZ4 := Lib.hid (row_grown HZ.out hg (by omega))
      have HB4 := Lib.hid (HB.out.grown hg HB.out.size (fun k e => by cases e; omega))
      clear hr hg HR HC HP HZ HB cp
      have ck : w4.cell? ⟨b, 2, none⟩ = some (.int .i64 0) := (cell_of_row _ _ _ _ _ _ HC4.out).trans rfl
      have fk : w4.frozen? ⟨b, 2, none⟩ = false := frozen_of_row _ _ _ _ _ HC4.out
      have HR5 := Lib.hid (rdAt_set (b := b) (j := 2) (v := .int .i64 x2) HR4.out (by omega))
      have HC5 : Hid ((w4.setCell ⟨b, 2, none⟩ (.int .i64 x2)).heap[b]? = some (.cells #[.int .i64 x0, .int .i64 x1, .int .i64 x2, .int .i64 0, .int .i64 0, .int .i64 0] 58 (0, 0))) := Lib.hid ((heap_setCell_same _ _ _ _ _ _ HC4.out).trans rfl)
      have HP5 : Hid ((w4.setCell ⟨b, 2, none⟩ (.int .i64 x2)).heap[pb]? = some (.cells #[.pointer (some ⟨b, 0, none⟩), .pointer (some ⟨b, 1, none⟩), .pointer (some ⟨b, 2, none⟩), .pointer (some ⟨b, 3, none⟩), .pointer (some ⟨b, 4, none⟩), .pointer (some ⟨b, 5, none⟩)] 90)) := Lib.hid ((heap_setCell_other _ _ _ _ (by show pb ≠ b; omega)).trans HP4.out)
      have HZ5 : Hid ((w4.setCell ⟨b, 2, none⟩ (.int .i64 x2)).heap[w.heap.size]? = some (.cells #[.int .i64 0, .int .i64 0, .int .i64 0, .int .i64 0, .int .i64 0, .int .i64 0] 58)) := Lib.hid ((heap_setCell_other _ _ _ _ (by show w.heap.size ≠ b; omega)).trans HZ4.out)
      have HB5 : Hid (Below w.heap.size w (w4.setCell ⟨b, 2, none⟩ (.int .i64 x2))) := Lib.hid (HB4.out.setCell (by show w.heap.size ≤ b; omega) _)
      clear HR4 HC4 HP4 HZ4 HB4
      go_wp2_with fail
      go_roundw
      case rel => exact ⟨3, by omega, by go_num, HR5.out, HC5.out, HP5.out, HZ5.out, HB5.out⟩
      case measure => simp [Go.RowKit.intOf]
    · have HR : Hid (RdAt q st3 wr) := Lib.hid hr
      have HC : Hid (wr.heap[b]? = some (.cells #[.int .i64 x0, .int .i64 x1, .int .i64 x2, .int .i64 0, .int .i64 0, .int .i64 0] 58)) := Lib.hid hc
      have HP := Lib.hid hp
      have HZ := Lib.hid hz
      have HB := Lib.hid hb
      clear hr hc hp hz hb HR2 HC2 HP2 H2 HB2
      have cp : wr.cell? ⟨pb, 3, none⟩ = some (.pointer (some ⟨b, 3, none⟩)) := (cell_of_row _ _ _ _ _ _ HP.out).trans rfl
      go_wp2_with fail
      refine (rdInt_any q _ _ HR.out).mono ?_
      rintro e w4 ⟨he, hr, hg⟩
      rw [E4.out] at he hr
      subst he
      have HR4 := Lib.hid hr
      have HC4 := Lib.hid (row_grown HC.out hg (by omega))
      have HP4 := Lib.hid (row_grown HP.out hg (by omega))
      have HZ4 := Lib.hid (row_grown HZ.out hg (by omega))
      have HB4 := Lib.hid (HB.out.grown hg HB.out.size (fun k e => by cases e; omega))
      clear hr hg HR HC HP HZ HB cp
      have ck : w4.cell? ⟨b, 3, none⟩ = some (.int .i64 0) := (cell_of_row _ _ _ _ _ _ HC4.out).trans rfl
      have fk : w4.frozen? ⟨b, 3, none⟩ = false := frozen_of_row _ _ _ _ _ HC4.out
      have HR5 := Lib.hid (rdAt_set (b := b) (j := 3) (v := .int .i64 x3) HR4.out (by omega))
      have HC5 : Hid ((w4.setCell ⟨b, 3, none⟩ (.int .i64 x3)).heap[b]? = some (.cells #[.int .i64 x0, .int .i64 x1, .int .i64 x2, .int .i64 x3, .int .i64 0, .int .i64 0] 58 (0, 0))) := Lib.hid ((heap_setCell_same _ _ _ _ _ _ HC4.out).trans rfl)
      have HP5 : Hid ((w4.setCell ⟨b, 3, none⟩ (.int .i64 x3)).heap[pb]? = some (.cells #[.pointer (some ⟨b, 0, none⟩), .pointer (some ⟨b, 1, none⟩), .pointer (some ⟨b, 2, none⟩), .pointer (some ⟨b, 3, none⟩), .pointer (some ⟨b, 4, none⟩), .pointer (some ⟨b, 5, none⟩)] 90)) := Lib.hid ((heap_setCell_other _ _ _ _ (by show pb ≠ b; omega)).trans HP4.out)
      have HZ5 : Hid ((w4.setCell ⟨b, 3, none⟩ (.int .i64 x3)).heap[w.heap.size]? = some (.cells #[.int .i64 0, .int .i64 0, .int .i64 0, .int .i64 0, .int .i64 0, .int .i64 0] 58)) := Lib.hid ((heap_setCell_other _ _ _ _ (by show w.heap.size ≠ b; omega)).trans HZ4.out)
      have HB5 : Hid (Below w.heap.size w (w4.setCell ⟨b, 3, none⟩ (.int .i64 x3))) := Lib.hid (HB4.out.setCell (by show w.heap.size ≤ b; omega) _)
      clear HR4 HC4 HP4 HZ4 HB4
      go_wp2_with fail
      go_roundw
      case rel => exact ⟨4, by omega, by go_num, HR5.out, HC5.out, HP5.out, HZ5.out, HB5.out⟩
      case measure => simp [Go.RowKit.intOf]
    · have HR : Hid (RdAt q st4 wr) := Lib.hid hr
      have HC : Hid (wr.heap[b]? = some (.cells #[.int .i64 x0, .int .i64 x1, .int .i64 x2, .int .i64 x3, .int .i64 0, .int .i64 0] 58)) := Lib.hid hc
      have HP := Lib.hid hp
      have HZ := Lib.hid hz
      have HB := Lib.hid hb
      clear hr hc hp hz hb HR2 HC2 HP2 H2 HB2
      have cp : wr.cell? ⟨pb, 4, none⟩ = some (.pointer (some ⟨b, 4, none⟩)) := (cell_of_row _ _ _ _ _ _ HP.out).trans rfl
      go_wp2_with fail
      refine (rdInt_any q _ _ HR.out).mono ?_
      rintro e w4 ⟨he, hr, hg⟩
      rw [E5.out] at he hr
      subst he
      have HR4 := Lib.hid hr
      have HC4 := Lib.hid (row_grown HC.out hg (by omega))
      have HP4 := Lib.hid (row_grown HP.out hg (by omega))
      have HZ4 := Lib.hid (row_grown HZ.out hg (by omega))
      have HB4 := Lib.hid (HB.out.grown hg HB.out.size (fun k e => by cases e; omega))
      clear hr hg HR HC HP HZ HB cp
      have ck : w4.cell? ⟨b, 4, none⟩ = some (.int .i64 0) := (cell_of_row _ _ _ _ _ _ HC4.out).trans rfl
      have fk : w4.frozen? ⟨b, 4, none⟩ = false := frozen_of_row _ _ _ _ _ HC4.out
      have HR5 := Lib.hid (rdAt_set (b := b) (j := 4) (v := .int .i64 x4) HR4.out (by omega))
      have HC5 : Hid ((w4.setCell ⟨b, 4, none⟩ (.int .i64 x4)).heap[b]? = some (.cells #[.int .i64 x0, .int .i64 x1, .int .i64 x2, .int .i64 x3, .int .i64 x4, .int .i64 0] 58 (0, 0))) := Lib.hid ((heap_setCell_same _ _ _ _ _ _ HC4.out).trans rfl)
      have HP5 : Hid ((w4.setCell ⟨b, 4, none⟩ (.int .i64 x4)).heap[pb]? = some (.cells #[.pointer (some ⟨b, 0, none⟩), .pointer (some ⟨b, 1, none⟩), .pointer (some ⟨b, 2, none⟩), .pointer (some ⟨b, 3, none⟩), .pointer (some ⟨b, 4, none⟩), .pointer (some ⟨b, 5, none⟩)] 90)) := Lib.hid ((heap_setCell_other _ _ _ _ (by show pb ≠ b; omega)).trans HP4.out)
      have HZ5 : Hid ((w4.setCell ⟨b, 4, none⟩ (.int .i64 x4)).heap[w.heap.size]? = some (.cells #[.int .i64 0, .int .i64 0, .int .i64 0, .int .i64 0, .int .i64 0, .int .i64 0] 58)) := Lib.hid ((heap_setCell_other _ _ _ _ (by show w.heap.size ≠ b; omega)).trans HZ4.out)
      have HB5 : Hid (Below w.heap.size w (w4.setCell ⟨b, 4, none⟩ (.int .i64 x4))) := Lib.hid (HB4.out.setCell (by show w.heap.size ≤ b; omega) _)
      clear HR4 HC4 HP4 HZ4 HB4
      go_wp2_with fail
      go_roundw
      case rel => exact ⟨5, by omega, by go_num, HR5.out, HC5.out, HP5.out, HZ5.out, HB5.out⟩
      case measure => simp [Go.RowKit.intOf]
    · have HR : Hid (RdAt q st5 wr) := Lib.hid hr
      have HC : Hid (wr.heap[b]? = some (.cells #[.int .i64 x0, .int .i64 x1, .int .i64 x2, .int .i64 x3, .int .i64 x4, .int .i64 0] 58)) := Lib.hid hc
      have HP := Lib.hid hp
      have HZ := Lib.hid hz
      have HB := Lib.hid hb
      clear hr hc hp hz hb HR2 HC2 HP2 H2 HB2
      have cp : wr.cell? ⟨pb, 5, none⟩ = some (.pointer (some ⟨b, 5, none⟩)) := (cell_of_row _ _ _ _ _ _ HP.out).trans rfl
      go_wp2_with fail
      refine (rdInt_any q _ _ HR.out).mono ?_
      rintro e w4 ⟨he, hr, hg⟩
      rw [E6.out] at he hr
      subst he
      have HR4 := Lib.hid hr
      have HC4 := Lib.hid (row_grown HC.out hg (by omega))
      have HP4 := Lib.hid (row_grown HP.out hg (by omega))
      have HZ4 := Lib.hid (row_grown HZ.out hg (by omega))
      have HB4 := Lib.hid (HB.out.grown hg HB.out.size (fun k e => by cases e; omega))
      clear hr hg HR HC HP HZ HB cp
      have ck : w4.cell? ⟨b, 5, none⟩ = some (.int .i64 0) := (cell_of_row _ _ _ _ _ _ HC4.out).trans rfl
      have fk : w4.frozen? ⟨b, 5, none⟩ = false := frozen_of_row _ _ _ _ _ HC4.out
      have HR5 := Lib.hid (rdAt_set (b := b) (j := 5) (v := .int .i64 x5) HR4.out (by omega))
      have HC5 : Hid ((w4.setCell ⟨b, 5, none⟩ (.int .i64 x5)).heap[b]? = some (.cells #[.int .i64 x0, .int .i64 x1, .int .i64 x2, .int .i64 x3, .int .i64 x4, .int .i64 x5] 58 (0, 0))) := Lib.hid ((heap_setCell_same _ _ _ _ _ _ HC4.out).trans rfl)
      have HP5 : Hid ((w4.setCell ⟨b, 5, none⟩ (.int .i64 x5)).heap[pb]? = some (.cells #[.pointer (some ⟨b, 0, none⟩), .pointer (some ⟨b, 1, none⟩), .pointer (some ⟨b, 2, none⟩), .pointer (some ⟨b, 3, none⟩), .pointer (some ⟨b, 4, none⟩), .pointer (some ⟨b, 5, none⟩)] 90)) := Lib.hid ((heap_setCell_other _ _ _ _ (by show pb ≠ b; omega)).trans HP4.out)
      have HZ5 : Hid ((w4.setCell ⟨b, 5, none⟩ (.int .i64 x5)).heap[w.heap.size]? = some (.cells #[.int .i64 0, .int .i64 0, .int .i64 0, .int .i64 0, .int .i64 0, .int .i64 0] 58)) := Lib.hid ((heap_setCell_other _ _ _ _ (by show w.heap.size ≠ b; omega)).trans HZ4.out)
      have HB5 : Hid (Below w.heap.size w (w4.setCell ⟨b, 5, none⟩ (.int .i64 x5))) := Lib.hid (HB4.out.setCell (by show w.heap.size ≤ b; omega) _)
      clear HR4 HC4 HP4 HZ4 HB4
      go_wp2_with fail
      go_roundw
      case rel => exact ⟨6, by omega, by go_num, HR5.out, HC5.out, HP5.out, HZ5.out, HB5.out⟩
      case measure => simp [Go.RowKit.intOf]
    · have HR : Hid (RdAt q st6 wr) := Lib.hid hr
      have HC : Hid (wr.heap[b]? = some (.cells #[.int .i64 x0, .int .i64 x1, .int .i64 x2, .int .i64 x3, .int .i64 x4, .int .i64 x5] 58 (0, 0))) := Lib.hid hc
      have HZ : Hid (wr.heap[w.heap.size]? = some (.cells #[.int .i64 0, .int .i64 0, .int .i64 0, .int .i64 0, .int .i64 0, .int .i64 0] 58 (0, 0))) := Lib.hid hz
      have HB := Lib.hid hb
      clear hr hc hp hz hb HR2 HC2 HP2 H2 HB2
      go_wp2_with fail
      refine (rdDone_any q _ _ HR.out).mono ?_
      rintro e w8 ⟨rfl, rfl⟩
      by_cases hd : doneOf st6 = true
      · have HE : Hid (readP s.data.toList = (⟨x0, x1, x2, x3, x4, x5⟩, true)) := Lib.hid (HRG.out.trans (if_pos hd))
        rw [hd]
        clear hd
        go_wp2_with (first | (refine wpList_load_row rfl 58 _ rfl _ rfl 58 _ _ _ HC.out hu rfl hinf ?_) | (refine wpList_store_row rfl 58 _ _ rfl w.heap.size #[.int .i64 x0, .int .i64 x1, .int .i64 x2, .int .i64 x3, .int .i64 x4, .int .i64 x5] rfl rfl 58 _ HZ.out hinf rfl (by simp [Value.oneCell']) ?_))
        refine bodyPost_ret (v := .tuple #[.agg #[.int .i64 x0, .int .i64 x1, .int .i64 x2, .int .i64 x3, .int .i64 x4, .int .i64 x5], .bool true]) ?_ rfl ⟨by rw [HE.out], ?_⟩
        · exact Eq.trans (results_row_tmp rfl _ _ w.heap.size 58 #[.int .i64 x0, .int .i64 x1, .int .i64 x2, .int .i64 x3, .int .i64 x4, .int .i64 x5] (0, 0) _ rfl (setRow_heap _ _ _ _ _ _ HZ.out) hu rfl hinf) rfl
        · exact below_setRow HB.out (Nat.le_refl _) _
      · have HE : Hid (readP s.data.toList = (zeroP, false)) := Lib.hid (HRG.out.trans (if_neg hd))
        have hd2 : doneOf st6 = false := by simpa using hd
        rw [hd2]
        clear hd hd2
        go_wp2_with (refine wpList_store_row rfl 58 _ _ rfl w.heap.size #[.int .i64 0, .int .i64 0, .int .i64 0, .int .i64 0, .int .i64 0, .int .i64 0] rfl rfl 58 _ HZ.out hinf rfl (by simp [Value.oneCell']) ?_)
        refine bodyPost_ret (v := .tuple #[.agg #[.int .i64 0, .int .i64 0, .int .i64 0, .int .i64 0, .int .i64 0, .int .i64 0], .bool false]) ?_ rfl ⟨by rw [HE.out]; rfl, ?_⟩
        · exact Eq.trans (results_row_tmp rfl _ _ w.heap.size 58 #[.int .i64 0, .int .i64 0, .int .i64 0, .int .i64 0, .int .i64 0, .int .i64 0] (0, 0) _ rfl (setRow_heap _ _ _ _ _ _ HZ.out) hu rfl hinf) rfl
        · exact below_setRow HB.out (Nat.le_refl _) _
end Go.Proofs.YtepidpegoihllaaGreatDoor

