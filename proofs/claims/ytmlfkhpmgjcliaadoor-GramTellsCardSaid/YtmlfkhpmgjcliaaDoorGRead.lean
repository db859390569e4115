/- Package gram: Read. -/
import Derived.Test.YtmlfkhpmgjcliaaDoorGSeal
import Derived.Laws.ResultCell
namespace Go.Proofs.YtmlfkhpmgjcliaaDoor
open Go.RowKit
theorem results_row_tmp {P : Program} {fn : Func} {p u : Tmp} {ty : TypeId} (h : fn.results = #[.cell p ty, .tmp u]) (tmps : Array Value) (w : World) (g : Nat) (t : TypeId) (cs : Array Value) (fr : Nat × Nat) (d : TypeDesc)
    (hp : tmps.getD p undef = .pointer (some ⟨g, 0, none⟩)) (hg : w.heap[g]? = some (.cells cs t fr))
    (hu : P.underlying ty = some d) (hd : (match d with | .struct _ | .array _ _ => true | _ => false) = true) (hi : (P.info? ty).map (·.size) = some cs.size) :
    (results fn tmps).run P w = .ok (.tuple #[.agg cs, tmps.getD u undef]) w := by
  rw [results_cell_tmp h, hp]
  simp [asAddr, run_loadVar_row w g t ty cs fr d hg hu hd hi]
theorem row_grown {w w' : World} {k q : Nat} {o : Obj} (h : w.heap[k]? = some o) (hg : w.grownBy w' (some q)) (hne : k ≠ q) : w'.heap[k]? = some o := by
  rw [hg.block k (blk_lt h) (by simp [hne]), h]
theorem rdAt_lt {g : Nat} {st : RSt} {w : World} (h : RdAt g st w) : g < w.heap.size := by
  obtain ⟨_, _, h, _⟩ := h
  exact blk_lt h
theorem rdInt_ok (s : RSt) : I64 (opInt s).1 := by
  cases s with
  | none => exact i64_0
  | some r => exact (ok_int r).2
theorem calls_ok (s : RSt) : GOk (calls s).1 := ⟨rdInt_ok _, rdInt_ok _, rdInt_ok _, rdInt_ok _⟩
set_option maxRecDepth 100000 in
set_option maxHeartbeats 4000000 in
theorem read_any (s : ByteArray) (w : World) (hs : s.size ≤ 1000) :
    Calls Tryd.prog 10 #[.string s] w
      fun e w' => e = .returned (.tuple #[.agg #[.int .i64 (readG s.data.toList).1.gauge, .int .i64 (readG s.data.toList).1.seq, .int .i64 (readG s.data.toList).1.clock, .int .i64 (readG s.data.toList).1.value, .string (readG s.data.toList).1.tag], .bool (readG s.data.toList).2]) ∧ Below w.heap.size w w' := by
  obtain ⟨fs, hu⟩ := undG
  obtain ⟨a, st1, e1⟩ : ∃ n t, opInt (some s.data.toList) = (n, t) := ⟨_, _, rfl⟩
  obtain ⟨b, st2, e2⟩ : ∃ n t, opInt st1 = (n, t) := ⟨_, _, rfl⟩
  obtain ⟨c, st3, e3⟩ : ∃ n t, opInt st2 = (n, t) := ⟨_, _, rfl⟩
  obtain ⟨d, st4, e4⟩ : ∃ n t, opInt st3 = (n, t) := ⟨_, _, rfl⟩
  obtain ⟨t, st5, e5⟩ : ∃ n t, opText st4 = (n, t) := ⟨_, _, rfl⟩
  have hcalls : calls (some s.data.toList) = (⟨a, b, c, d, ⟨t.toArray⟩⟩, st5) := by simp [calls, e1, e2, e3, e4, e5]
  have hok := calls_ok (some s.data.toList)
  rw [hcalls] at hok
  have HRG : Hid (readG s.data.toList = if doneOf st5 = true ∧ Formed ⟨a, b, c, d, ⟨t.toArray⟩⟩ then (⟨a, b, c, d, ⟨t.toArray⟩⟩, true) else (zeroG, false)) := Lib.hid (by unfold readG; rw [hcalls])
  have E1 := Lib.hid e1
  have E2 := Lib.hid e2
  have E3 := Lib.hid e3
  have E4 := Lib.hid e4
  have E5 := Lib.hid e5
  have HOK := Lib.hid hok
  clear hcalls hok e1 e2 e3 e4 e5
  go_enter Tryd.func10, Tryd.ntmps10
  go_wp2_with fail
  have hB0 : Below w.heap.size w (w.alloc (.cells #[.int .i64 0, .int .i64 0, .int .i64 0, .int .i64 0, .string ⟨#[]⟩] 23)) := (Below.refl _ _).alloc (Nat.le_refl _) _
  have h0 := heap_alloc_new w (.cells #[.int .i64 0, .int .i64 0, .int .i64 0, .int .i64 0, .string ⟨#[]⟩] 23)
  generalize w.alloc (.cells #[.int .i64 0, .int .i64 0, .int .i64 0, .int .i64 0, .string ⟨#[]⟩] 23) = w0 at *
  refine (open_any s _ (by omega)).mono ?_
  rintro e w1 ⟨rfl, hr, hb⟩
  have H0 := Lib.hid (blk_below h0 hb (blk_lt h0))
  have HB0 := Lib.hid (hB0.trans (hb.mono hB0.size))
  have hn : w.heap.size < w0.heap.size := blk_lt h0
  generalize w0.heap.size = q at *
  have HR0 := Lib.hid hr
  clear h0 hB0 hb hr
  go_wp2_with fail
  refine (rdInt_any q _ _ HR0.out).mono ?_
  rintro e w2 ⟨he, hr, hg⟩
  rw [E1.out] at he hr
  subst he
  have HR1 := Lib.hid hr
  have H1 := Lib.hid (row_grown H0.out hg (by omega))
  have HB1 := Lib.hid (HB0.out.grown hg HB0.out.size (fun k e => by cases e; omega))
  clear hr hg H0 HB0 HR0 E1
  go_wp2_with fail
  refine (rdInt_any q _ _ HR1.out).mono ?_
  rintro e w3 ⟨he, hr, hg⟩
  rw [E2.out] at he hr
  subst he
  have HR2 := Lib.hid hr
  have H2 := Lib.hid (row_grown H1.out hg (by omega))
  have HB2 := Lib.hid (HB1.out.grown hg HB1.out.size (fun k e => by cases e; omega))
  clear hr hg H1 HB1 HR1 E2
  go_wp2_with fail
  refine (rdInt_any q _ _ HR2.out).mono ?_
  rintro e w4 ⟨he, hr, hg⟩
  rw [E3.out] at he hr
  subst he
  have HR3 := Lib.hid hr
  have H3 := Lib.hid (row_grown H2.out hg (by omega))
  have HB3 := Lib.hid (HB2.out.grown hg HB2.out.size (fun k e => by cases e; omega))
  clear hr hg H2 HB2 HR2 E3
  go_wp2_with fail
  refine (rdInt_any q _ _ HR3.out).mono ?_
  rintro e w5 ⟨he, hr, hg⟩
  rw [E4.out] at he hr
  subst he
  have HR4 := Lib.hid hr
  have H4 := Lib.hid (row_grown H3.out hg (by omega))
  have HB4 := Lib.hid (HB3.out.grown hg HB3.out.size (fun k e => by cases e; omega))
  clear hr hg H3 HB3 HR3 E4
  go_wp2_with fail
  refine (rdText_any q _ _ HR4.out).mono ?_
  rintro e w6 ⟨he, hr, hg⟩
  rw [E5.out] at he hr
  subst he
  have HR5 := Lib.hid hr
  have H5 := Lib.hid (row_grown H4.out hg (by omega))
  have HB5 := Lib.hid (HB4.out.grown hg HB4.out.size (fun k e => by cases e; omega))
  have hq6 : q < w6.heap.size := rdAt_lt hr
  clear hr hg H4 HB4 HR4 E5
  simp only [] at *
  generalize hTT : (⟨t.toArray⟩ : ByteArray) = T at *
  clear hTT
  go_wp2_with fail
  have HR6 := Lib.hid (HR5.out.below ((Below.refl w6.heap.size w6).alloc (Nat.le_refl _) (.cells #[.int .i64 a, .int .i64 b, .int .i64 c, .int .i64 d, .string T] 23)) hq6)
  have H6 := Lib.hid (blk_below H5.out ((Below.refl w6.heap.size w6).alloc (Nat.le_refl _) (.cells #[.int .i64 a, .int .i64 b, .int .i64 c, .int .i64 d, .string T] 23)) (blk_lt H5.out))
  have HB6 := Lib.hid (HB5.out.alloc HB5.out.size (.cells #[.int .i64 a, .int .i64 b, .int .i64 c, .int .i64 d, .string T] 23))
  clear HR5 H5 HB5
  refine (rdDone_any q _ _ HR6.out).mono ?_
  rintro e w8 ⟨rfl, rfl⟩
  clear HR6
  by_cases hd : doneOf st5 = true
  · rw [hd]
    go_wp2_with fail
    refine (wellFormed_any ⟨a, b, c, d, T⟩ _ HOK.out).mono ?_
    rintro e w9 ⟨rfl, hb⟩
    have H9 := Lib.hid (blk_below H6.out hb (blk_lt H6.out))
    have HN9 := Lib.hid (blk_below (heap_alloc_new w6 (.cells #[.int .i64 a, .int .i64 b, .int .i64 c, .int .i64 d, .string T] 23)) hb (blk_lt (heap_alloc_new w6 (.cells #[.int .i64 a, .int .i64 b, .int .i64 c, .int .i64 d, .string T] 23))))
    have HB9 := Lib.hid (HB6.out.trans (hb.mono HB6.out.size))
    clear hb H6 HB6
    by_cases hF : Formed ⟨a, b, c, d, T⟩
    · have HE : Hid (readG s.data.toList = (⟨a, b, c, d, T⟩, true)) := Lib.hid (HRG.out.trans (if_pos ⟨hd, hF⟩))
      rw [decide_eq_true hF]
      clear hF hd
      go_wp2_with (first | (refine wpList_load_row rfl 23 _ rfl _ rfl 23 _ _ _ HN9.out hu rfl infoG ?_) | (refine wpList_store_row rfl 23 _ _ rfl w.heap.size #[.int .i64 a, .int .i64 b, .int .i64 c, .int .i64 d, .string T] rfl rfl 23 _ H9.out infoG rfl (by simp [Value.oneCell']) ?_))
      refine bodyPost_ret (v := .tuple #[.agg #[.int .i64 a, .int .i64 b, .int .i64 c, .int .i64 d, .string T], .bool true]) ?_ rfl ⟨by rw [HE.out], ?_⟩
      · exact Eq.trans (results_row_tmp rfl _ _ w.heap.size 23 #[.int .i64 a, .int .i64 b, .int .i64 c, .int .i64 d, .string T] (0, 0) _ rfl (setRow_heap _ _ _ _ _ _ H9.out) hu rfl infoG) rfl
      · exact below_setRow HB9.out (Nat.le_refl _) _
    · have HE : Hid (readG s.data.toList = (zeroG, false)) := Lib.hid (HRG.out.trans (if_neg (fun h => hF h.2)))
      rw [decide_eq_false hF]
      clear hF hd
      go_wp2_with (refine wpList_store_row rfl 23 _ _ rfl w.heap.size #[.int .i64 0, .int .i64 0, .int .i64 0, .int .i64 0, .string ⟨#[]⟩] rfl rfl 23 _ H9.out infoG rfl (by simp [Value.oneCell']) ?_)
      refine bodyPost_ret (v := .tuple #[.agg #[.int .i64 0, .int .i64 0, .int .i64 0, .int .i64 0, .string ⟨#[]⟩], .bool false]) ?_ rfl ⟨by rw [HE.out]; rfl, ?_⟩
      · exact Eq.trans (results_row_tmp rfl _ _ w.heap.size 23 #[.int .i64 0, .int .i64 0, .int .i64 0, .int .i64 0, .string ⟨#[]⟩] (0, 0) _ rfl (setRow_heap _ _ _ _ _ _ H9.out) hu rfl infoG) rfl
      · exact below_setRow HB9.out (Nat.le_refl _) _
  · have hd2 : doneOf st5 = false := by simpa using hd
    have HE : Hid (readG s.data.toList = (zeroG, false)) := Lib.hid (HRG.out.trans (if_neg (fun h => hd h.1)))
    rw [hd2]
    clear hd hd2
    go_wp2_with (refine wpList_store_row rfl 23 _ _ rfl w.heap.size #[.int .i64 0, .int .i64 0, .int .i64 0, .int .i64 0, .string ⟨#[]⟩] rfl rfl 23 _ H6.out infoG rfl (by simp [Value.oneCell']) ?_)
    refine bodyPost_ret (v := .tuple #[.agg #[.int .i64 0, .int .i64 0, .int .i64 0, .int .i64 0, .string ⟨#[]⟩], .bool false]) ?_ rfl ⟨by rw [HE.out]; rfl, ?_⟩
    · exact Eq.trans (results_row_tmp rfl _ _ w.heap.size 23 #[.int .i64 0, .int .i64 0, .int .i64 0, .int .i64 0, .string ⟨#[]⟩] (0, 0) _ rfl (setRow_heap _ _ _ _ _ _ H6.out) hu rfl infoG) rfl
    · exact below_setRow HB6.out (Nat.le_refl _) _
end Go.Proofs.YtmlfkhpmgjcliaaDoor
