/- Right of package gram and of its reference; the reference's Read. -/
import Derived.Test.YtmlfkhpmgjcliaaDoorGRefA
namespace Go.Proofs.YtmlfkhpmgjcliaaDoor
open Go.RowKit
set_option maxRecDepth 100000 in
set_option maxHeartbeats 1000000 in
theorem gright24_any (g : GV) (hO : GOk g) (p : Option Addr) (n c : Nat) (w : World) :
    Calls Tryd.prog 16 #[.agg #[.string ⟨#[]⟩, .slice none 0 0, .int .i64 0, .slice none 0 0, .slice none 0 0, .slice none 0 0, .slice p n c, .slice none 0 0, .slice none 0 0, .slice none 0 0, .int .i64 0], .agg #[.int .i64 g.gauge, .int .i64 g.seq, .int .i64 g.clock, .int .i64 g.value, .string g.tag]] w fun e w' => e = .returned (.bool (decide (Formed g ∧ g.gauge < n))) ∧ Below w.heap.size w w' := by
  have HO := Lib.hid hO
  have hB0 : Below w.heap.size w ((w.alloc (.cells #[.string ⟨#[]⟩, .slice none 0 0, .int .i64 0, .slice none 0 0, .slice none 0 0, .slice none 0 0, .slice p n c, .slice none 0 0, .slice none 0 0, .slice none 0 0, .int .i64 0] 35)).alloc (.cells #[.int .i64 g.gauge, .int .i64 g.seq, .int .i64 g.clock, .int .i64 g.value, .string g.tag] 23)) := ((Below.refl _ _).alloc (Nat.le_refl _) _).alloc (by simp) _
  have h0 := (two_rows' (w := w) (A := .cells #[.string ⟨#[]⟩, .slice none 0 0, .int .i64 0, .slice none 0 0, .slice none 0 0, .slice none 0 0, .slice p n c, .slice none 0 0, .slice none 0 0, .slice none 0 0, .int .i64 0] 35) (B := .cells #[.int .i64 g.gauge, .int .i64 g.seq, .int .i64 g.clock, .int .i64 g.value, .string g.tag] 23))
  clear hO
  go_enter Tryd.func16, Tryd.ntmps16
  go_wp2_with fail
  refine (wellFormed_any g _ HO.out).mono ?_
  rintro e w1 ⟨rfl, hb1⟩
  have H0 := blk_below h0.1 hb1 (by simp only [World.size_alloc]; omega)
  have H1 := blk_below h0.2 hb1 (by simp only [World.size_alloc]; omega)
  have c0 : w1.cell? ⟨w.heap.size, 6, none⟩ = some (.slice p n c) := (cell_of_row _ _ _ _ _ _ H0).trans rfl
  have c1 : w1.cell? ⟨w.heap.size + 1, 0, none⟩ = some (.int .i64 g.gauge) := (cell_of_row _ _ _ _ _ _ H1).trans rfl
  have HB := Lib.hid (hB0.trans (hb1.mono hB0.size))
  clear h0 hB0 hb1 H0 H1
  by_cases hF : Formed g
  · have HE : Hid (decide (Formed g ∧ g.gauge < n) = decide (g.gauge < n)) := Lib.hid (by simp [hF])
    rw [decide_eq_true hF]
    clear hF
    go_wp2_with fail
    go_ret
    exact ⟨by rw [HE.out]; rfl, HB.out⟩
  · have HE : Hid (decide (Formed g ∧ g.gauge < n) = false) := Lib.hid (by simp [hF])
    rw [decide_eq_false hF]
    clear hF
    go_wp2_with fail
    go_ret
    exact ⟨by rw [HE.out]; rfl, HB.out⟩
set_option maxRecDepth 100000 in
set_option maxHeartbeats 1000000 in
theorem rright24_any (g : GV) (hO : GOk g) (p : Option Addr) (n c : Nat) (w : World) :
    Calls Tryd.prog 17 #[.agg #[.string ⟨#[]⟩, .slice none 0 0, .int .i64 0, .slice none 0 0, .slice none 0 0, .slice none 0 0, .slice p n c, .slice none 0 0, .slice none 0 0, .slice none 0 0, .int .i64 0], .agg #[.int .i64 g.gauge, .int .i64 g.seq, .int .i64 g.clock, .int .i64 g.value, .string g.tag]] w fun e w' => e = .returned (.bool (decide (Formed g ∧ g.gauge < n))) ∧ Below w.heap.size w w' := by
  have HO := Lib.hid hO
  have hB0 : Below w.heap.size w ((w.alloc (.cells #[.string ⟨#[]⟩, .slice none 0 0, .int .i64 0, .slice none 0 0, .slice none 0 0, .slice none 0 0, .slice p n c, .slice none 0 0, .slice none 0 0, .slice none 0 0, .int .i64 0] 35)).alloc (.cells #[.int .i64 g.gauge, .int .i64 g.seq, .int .i64 g.clock, .int .i64 g.value, .string g.tag] 23)) := ((Below.refl _ _).alloc (Nat.le_refl _) _).alloc (by simp) _
  have h0 := (two_rows' (w := w) (A := .cells #[.string ⟨#[]⟩, .slice none 0 0, .int .i64 0, .slice none 0 0, .slice none 0 0, .slice none 0 0, .slice p n c, .slice none 0 0, .slice none 0 0, .slice none 0 0, .int .i64 0] 35) (B := .cells #[.int .i64 g.gauge, .int .i64 g.seq, .int .i64 g.clock, .int .i64 g.value, .string g.tag] 23))
  clear hO
  go_enter Tryd.func17, Tryd.ntmps17
  go_wp2_with fail
  refine (rformed_any g _).mono ?_
  rintro e w1 ⟨rfl, hb1⟩
  have H0 := blk_below h0.1 hb1 (by simp only [World.size_alloc]; omega)
  have H1 := blk_below h0.2 hb1 (by simp only [World.size_alloc]; omega)
  have c0 : w1.cell? ⟨w.heap.size, 6, none⟩ = some (.slice p n c) := (cell_of_row _ _ _ _ _ _ H0).trans rfl
  have c1 : w1.cell? ⟨w.heap.size + 1, 0, none⟩ = some (.int .i64 g.gauge) := (cell_of_row _ _ _ _ _ _ H1).trans rfl
  have HB := Lib.hid (hB0.trans (hb1.mono hB0.size))
  clear h0 hB0 hb1 H0 H1
  by_cases hF : Formed g
  · have HE : Hid (decide (Formed g ∧ g.gauge < n) = decide (g.gauge < n)) := Lib.hid (by simp [hF])
    rw [decide_eq_true hF]
    clear hF
    go_wp2_with fail
    go_ret
    exact ⟨by rw [HE.out]; rfl, HB.out⟩
  · have HE : Hid (decide (Formed g ∧ g.gauge < n) = false) := Lib.hid (by simp [hF])
    rw [decide_eq_false hF]
    clear hF
    go_wp2_with fail
    go_ret
    exact ⟨by rw [HE.out]; rfl, HB.out⟩
theorem rd_setCell {w w2 : World} {q p r : Nat} {st : RSt} {R A : Array Value} {tr tp : TypeId} {j : Nat} {v : Value} (hQ : QAt q st w2) (hR : w2.heap[r]? = some (.cells R tr (0, 0))) (hP : w2.heap[p]? = some (.cells A tp (0, 0))) (hB : Below w.heap.size w w2) (h1 : p ≠ q) (h2 : p ≠ r) (h3 : w.heap.size ≤ p) :
    QAt q st (w2.setCell ⟨p, j, none⟩ v) ∧ (w2.setCell ⟨p, j, none⟩ v).heap[r]? = some (.cells R tr (0, 0)) ∧ (w2.setCell ⟨p, j, none⟩ v).heap[p]? = some (.cells (A.setIfInBounds j v) tp (0, 0)) ∧ Below w.heap.size w (w2.setCell ⟨p, j, none⟩ v) := by
  refine ⟨?_, ?_, ?_, hB.setCell h3 _⟩
  · obtain ⟨rest, bad, hb, h⟩ := hQ
    exact ⟨rest, bad, (heap_setCell_other _ _ _ _ (fun e => h1 e.symm)).trans hb, h⟩
  · exact (heap_setCell_other _ _ _ _ (fun e => h2 e.symm)).trans hR
  · exact heap_setCell_same _ _ _ _ _ _ hP
set_option maxRecDepth 100000 in
set_option maxHeartbeats 4000000 in
theorem rread_any (s : ByteArray) (w : World) (hs : s.size ≤ 1000) :
    Calls Tryd.prog 11 #[.string s] w
      fun e w' => e = .returned (.tuple #[.agg #[.int .i64 (readG s.data.toList).1.gauge, .int .i64 (readG s.data.toList).1.seq, .int .i64 (readG s.data.toList).1.clock, .int .i64 (readG s.data.toList).1.value, .string (readG s.data.toList).1.tag], .bool (readG s.data.toList).2]) ∧ Below w.heap.size w w' := by
  obtain ⟨fs, hu⟩ := undG
  obtain ⟨a, st1, e1⟩ : ∃ n t, opInt (some s.data.toList) = (n, t) := ⟨_, _, rfl⟩
  obtain ⟨b, st2, e2⟩ : ∃ n t, opInt st1 = (n, t) := ⟨_, _, rfl⟩
  obtain ⟨c, st3, e3⟩ : ∃ n t, opInt st2 = (n, t) := ⟨_, _, rfl⟩
  obtain ⟨d, st4, e4⟩ : ∃ n t, opInt st3 = (n, t) := ⟨_, _, rfl⟩
  obtain ⟨t, st5, e5⟩ : ∃ n t, opText st4 = (n, t) := ⟨_, _, rfl⟩
  have hcalls : calls (some s.data.toList) = (⟨a, b, c, d, ⟨t.toArray⟩⟩, st5) := by simp [calls, e1, e2, e3, e4, e5]
  have hok := calls_ok (some s.data.toList)
  rw [hcalls] at hok
  have HRG : Hid (readG s.data.toList = if doneOf st5 = true ∧ Formed ⟨a, b, c, d, ⟨t.toArray⟩⟩ then (⟨a, b, c, d, ⟨t.toArray⟩⟩, true) else (zeroG, false)) := Lib.hid (by unfold readG; rw [hcalls])
  have E1 := Lib.hid e1
  have E2 := Lib.hid e2
  have E3 := Lib.hid e3
  have E4 := Lib.hid e4
  have E5 := Lib.hid e5
  have HOK := Lib.hid hok
  clear hcalls hok e1 e2 e3 e4 e5
  go_enter Tryd.func11, Tryd.ntmps11
  go_wp2_with fail
  have hB0 : Below w.heap.size w (w.alloc (.cells #[.int .i64 0, .int .i64 0, .int .i64 0, .int .i64 0, .string ⟨#[]⟩] 23)) := (Below.refl _ _).alloc (Nat.le_refl _) _
  have h0 := heap_alloc_new w (.cells #[.int .i64 0, .int .i64 0, .int .i64 0, .int .i64 0, .string ⟨#[]⟩] 23)
  generalize w.alloc (.cells #[.int .i64 0, .int .i64 0, .int .i64 0, .int .i64 0, .string ⟨#[]⟩] 23) = w0 at *
  refine (qopen_any s _ (by omega)).mono ?_
  rintro e w1 ⟨rfl, hr, hb⟩
  have H0 := Lib.hid (blk_below h0 hb (blk_lt h0))
  have HB0 := Lib.hid (hB0.trans (hb.mono hB0.size))
  have hn : w.heap.size < w0.heap.size := blk_lt h0
  generalize w0.heap.size = q at *
  have hAl := (Below.refl w1.heap.size w1).alloc (Nat.le_refl _) (.cells #[.int .i64 0, .int .i64 0, .int .i64 0, .int .i64 0, .string ⟨#[]⟩] 23)
  have HR0 := Lib.hid (QAt.below hr hAl hr.lt)
  have H0' := Lib.hid (blk_below H0.out hAl (blk_lt H0.out))
  have P0 := Lib.hid (heap_alloc_new w1 (.cells #[.int .i64 0, .int .i64 0, .int .i64 0, .int .i64 0, .string ⟨#[]⟩] 23))
  have HB0' := Lib.hid (HB0.out.trans (hAl.mono HB0.out.size))
  have hqp : w1.heap.size ≠ q := fun e => by have := hr.lt; omega
  have hpn : w1.heap.size ≠ w.heap.size := fun e => by have := blk_lt H0.out; omega
  have hle : w.heap.size ≤ w1.heap.size := HB0.out.size
  clear h0 hB0 hb hr hAl H0 HB0
  go_wp2_with fail
  generalize w1.alloc (.cells #[.int .i64 0, .int .i64 0, .int .i64 0, .int .i64 0, .string ⟨#[]⟩] 23) = v0 at *
  generalize w1.heap.size = p at *
  refine (qInt_any q _ _ HR0.out).mono ?_
  rintro e u0 ⟨he, hr, hg⟩
  rw [E1.out] at he hr
  subst he
  have hH := row_grown H0'.out hg (by omega)
  have hP := row_grown P0.out hg hqp
  have hB := HB0'.out.grown hg HB0'.out.size (fun k e => by cases e; omega)
  have hc : u0.cell? ⟨p, 0, none⟩ = some (.int .i64 0) := (cell_of_row _ _ _ _ _ _ hP).trans rfl
  have hfz : u0.frozen? ⟨p, 0, none⟩ = false := frozen_of_row _ _ _ _ _ hP
  have hall := rd_setCell (j := 0) (v := .int .i64 a) hr hH hP hB hqp hpn hle
  have HR1 := Lib.hid hall.1
  have HH1 := Lib.hid hall.2.1
  have PP1 : Hid ((u0.setCell ⟨p, 0, none⟩ (.int .i64 a)).heap[p]? = some (.cells #[.int .i64 a, .int .i64 0, .int .i64 0, .int .i64 0, .string ⟨#[]⟩] 23 (0, 0))) := Lib.hid (hall.2.2.1.trans rfl)
  have BB1 := Lib.hid hall.2.2.2
  clear hall hr hg hH hP hB HR0 H0' P0 HB0' E1
  go_wp2_with fail
  clear hc hfz
  generalize u0.setCell ⟨p, 0, none⟩ (.int .i64 a) = v1 at *
  refine (qInt_any q _ _ HR1.out).mono ?_
  rintro e u1 ⟨he, hr, hg⟩
  rw [E2.out] at he hr
  subst he
  have hH := row_grown HH1.out hg (by omega)
  have hP := row_grown PP1.out hg hqp
  have hB := BB1.out.grown hg BB1.out.size (fun k e => by cases e; omega)
  have hc : u1.cell? ⟨p, 1, none⟩ = some (.int .i64 0) := (cell_of_row _ _ _ _ _ _ hP).trans rfl
  have hfz : u1.frozen? ⟨p, 1, none⟩ = false := frozen_of_row _ _ _ _ _ hP
  have hall := rd_setCell (j := 1) (v := .int .i64 b) hr hH hP hB hqp hpn hle
  have HR2 := Lib.hid hall.1
  have HH2 := Lib.hid hall.2.1
  have PP2 : Hid ((u1.setCell ⟨p, 1, none⟩ (.int .i64 b)).heap[p]? = some (.cells #[.int .i64 a, .int .i64 b, .int .i64 0, .int .i64 0, .string ⟨#[]⟩] 23 (0, 0))) := Lib.hid (hall.2.2.1.trans rfl)
  have BB2 := Lib.hid hall.2.2.2
  clear hall hr hg hH hP hB HR1 HH1 PP1 BB1 E2
  go_wp2_with fail
  clear hc hfz
  generalize u1.setCell ⟨p, 1, none⟩ (.int .i64 b) = v2 at *
  refine (qInt_any q _ _ HR2.out).mono ?_
  rintro e u2 ⟨he, hr, hg⟩
  rw [E3.out] at he hr
  subst he
  have hH := row_grown HH2.out hg (by omega)
  have hP := row_grown PP2.out hg hqp
  have hB := BB2.out.grown hg BB2.out.size (fun k e => by cases e; omega)
  have hc : u2.cell? ⟨p, 2, none⟩ = some (.int .i64 0) := (cell_of_row _ _ _ _ _ _ hP).trans rfl
  have hfz : u2.frozen? ⟨p, 2, none⟩ = false := frozen_of_row _ _ _ _ _ hP
  have hall := rd_setCell (j := 2) (v := .int .i64 c) hr hH hP hB hqp hpn hle
  have HR3 := Lib.hid hall.1
  have HH3 := Lib.hid hall.2.1
  have PP3 : Hid ((u2.setCell ⟨p, 2, none⟩ (.int .i64 c)).heap[p]? = some (.cells #[.int .i64 a, .int .i64 b, .int .i64 c, .int .i64 0, .string ⟨#[]⟩] 23 (0, 0))) := Lib.hid (hall.2.2.1.trans rfl)
  have BB3 := Lib.hid hall.2.2.2
  clear hall hr hg hH hP hB HR2 HH2 PP2 BB2 E3
  go_wp2_with fail
  clear hc hfz
  generalize u2.setCell ⟨p, 2, none⟩ (.int .i64 c) = v3 at *
  refine (qInt_any q _ _ HR3.out).mono ?_
  rintro e u3 ⟨he, hr, hg⟩
  rw [E4.out] at he hr
  subst he
  have hH := row_grown HH3.out hg (by omega)
  have hP := row_grown PP3.out hg hqp
  have hB := BB3.out.grown hg BB3.out.size (fun k e => by cases e; omega)
  have hc : u3.cell? ⟨p, 3, none⟩ = some (.int .i64 0) := (cell_of_row _ _ _ _ _ _ hP).trans rfl
  have hfz : u3.frozen? ⟨p, 3, none⟩ = false := frozen_of_row _ _ _ _ _ hP
  have hall := rd_setCell (j := 3) (v := .int .i64 d) hr hH hP hB hqp hpn hle
  have HR4 := Lib.hid hall.1
  have HH4 := Lib.hid hall.2.1
  have PP4 : Hid ((u3.setCell ⟨p, 3, none⟩ (.int .i64 d)).heap[p]? = some (.cells #[.int .i64 a, .int .i64 b, .int .i64 c, .int .i64 d, .string ⟨#[]⟩] 23 (0, 0))) := Lib.hid (hall.2.2.1.trans rfl)
  have BB4 := Lib.hid hall.2.2.2
  clear hall hr hg hH hP hB HR3 HH3 PP3 BB3 E4
  go_wp2_with fail
  clear hc hfz
  generalize u3.setCell ⟨p, 3, none⟩ (.int .i64 d) = v4 at *
  refine (qText_any q _ _ HR4.out).mono ?_
  rintro e u4 ⟨he, hr, hg⟩
  rw [E5.out] at he hr
  subst he
  have hH := row_grown HH4.out hg (by omega)
  have hP := row_grown PP4.out hg hqp
  have hB := BB4.out.grown hg BB4.out.size (fun k e => by cases e; omega)
  simp only [] at *
  generalize hTT : (⟨t.toArray⟩ : ByteArray) = T at *
  clear hTT
  have hc : u4.cell? ⟨p, 4, none⟩ = some (.string ⟨#[]⟩) := (cell_of_row _ _ _ _ _ _ hP).trans rfl
  have hfz : u4.frozen? ⟨p, 4, none⟩ = false := frozen_of_row _ _ _ _ _ hP
  have hall := rd_setCell (j := 4) (v := .string T) hr hH hP hB hqp hpn hle
  have HR5 := Lib.hid hall.1
  have HH5 := Lib.hid hall.2.1
  have PP5 : Hid ((u4.setCell ⟨p, 4, none⟩ (.string T)).heap[p]? = some (.cells #[.int .i64 a, .int .i64 b, .int .i64 c, .int .i64 d, .string T] 23 (0, 0))) := Lib.hid (hall.2.2.1.trans rfl)
  have BB5 := Lib.hid hall.2.2.2
  clear hall hr hg hH hP hB HR4 HH4 PP4 BB4 E5
  go_wp2_with fail
  clear hc hfz
  generalize u4.setCell ⟨p, 4, none⟩ (.string T) = v5 at *
  refine (qDone_any q _ _ HR5.out).mono ?_
  rintro e w8 ⟨rfl, rfl⟩
  clear HR5
  by_cases hd : doneOf st5 = true
  · rw [hd]
    obtain ⟨x0, x1, x2, x3, x4⟩ := row5 PP5.out
    go_wp2_with fail
    refine (rformed_any ⟨a, b, c, d, T⟩ _).mono ?_
    rintro e w9 ⟨rfl, hb⟩
    have H9 := Lib.hid (blk_below HH5.out hb (blk_lt HH5.out))
    have HN9 := Lib.hid (blk_below PP5.out hb (blk_lt PP5.out))
    have HB9 := Lib.hid (BB5.out.trans (hb.mono BB5.out.size))
    clear x0 x1 x2 x3 x4 hb HH5 PP5 BB5
    by_cases hF : Formed ⟨a, b, c, d, T⟩
    · have HE : Hid (readG s.data.toList = (⟨a, b, c, d, T⟩, true)) := Lib.hid (HRG.out.trans (if_pos ⟨hd, hF⟩))
      rw [decide_eq_true hF]
      clear hF hd
      go_wp2_with (first | (refine wpList_load_row rfl 23 _ rfl _ rfl 23 _ _ _ HN9.out hu rfl infoG ?_) | (refine wpList_store_row rfl 23 _ _ rfl w.heap.size #[.int .i64 a, .int .i64 b, .int .i64 c, .int .i64 d, .string T] rfl rfl 23 _ H9.out infoG rfl (by simp [Value.oneCell']) ?_))
      refine bodyPost_ret (v := .tuple #[.agg #[.int .i64 a, .int .i64 b, .int .i64 c, .int .i64 d, .string T], .bool true]) ?_ rfl ⟨by rw [HE.out], ?_⟩
      · exact Eq.trans (results_row_tmp rfl _ _ w.heap.size 23 #[.int .i64 a, .int .i64 b, .int .i64 c, .int .i64 d, .string T] (0, 0) _ rfl (setRow_heap _ _ _ _ _ _ H9.out) hu rfl infoG) rfl
      · exact below_setRow HB9.out (Nat.le_refl _) _
    · have HE : Hid (readG s.data.toList = (zeroG, false)) := Lib.hid (HRG.out.trans (if_neg (fun h => hF h.2)))
      rw [decide_eq_false hF]
      clear hF hd
      go_wp2_with (refine wpList_store_row rfl 23 _ _ rfl w.heap.size #[.int .i64 0, .int .i64 0, .int .i64 0, .int .i64 0, .string ⟨#[]⟩] rfl rfl 23 _ H9.out infoG rfl (by simp [Value.oneCell']) ?_)
      refine bodyPost_ret (v := .tuple #[.agg #[.int .i64 0, .int .i64 0, .int .i64 0, .int .i64 0, .string ⟨#[]⟩], .bool false]) ?_ rfl ⟨by rw [HE.out]; rfl, ?_⟩
      · exact Eq.trans (results_row_tmp rfl _ _ w.heap.size 23 #[.int .i64 0, .int .i64 0, .int .i64 0, .int .i64 0, .string ⟨#[]⟩] (0, 0) _ rfl (setRow_heap _ _ _ _ _ _ H9.out) hu rfl infoG) rfl
      · exact below_setRow HB9.out (Nat.le_refl _) _
  · have hd2 : doneOf st5 = false := by simpa using hd
    have HE : Hid (readG s.data.toList = (zeroG, false)) := Lib.hid (HRG.out.trans (if_neg (fun h => hd h.1)))
    rw [hd2]
    clear hd hd2
    go_wp2_with (refine wpList_store_row rfl 23 _ _ rfl w.heap.size #[.int .i64 0, .int .i64 0, .int .i64 0, .int .i64 0, .string ⟨#[]⟩] rfl rfl 23 _ HH5.out infoG rfl (by simp [Value.oneCell']) ?_)
    refine bodyPost_ret (v := .tuple #[.agg #[.int .i64 0, .int .i64 0, .int .i64 0, .int .i64 0, .string ⟨#[]⟩], .bool false]) ?_ rfl ⟨by rw [HE.out]; rfl, ?_⟩
    · exact Eq.trans (results_row_tmp rfl _ _ w.heap.size 23 #[.int .i64 0, .int .i64 0, .int .i64 0, .int .i64 0, .string ⟨#[]⟩] (0, 0) _ rfl (setRow_heap _ _ _ _ _ _ HH5.out) hu rfl infoG) rfl
    · exact below_setRow BB5.out (Nat.le_refl _) _
end Go.Proofs.YtmlfkhpmgjcliaaDoor
