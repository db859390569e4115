/- bourneref29.Right, bourneref09.Has and SameAll; At out of range. -/
import Derived.Test.YtleiiedacachjaaKRight
import Derived.Test.YtleiiedacachjaaKSameA
import Derived.Laws.StructEq
namespace Go.Proofs.Ytleiiedacachjaa
open Go.RowKit
set_option maxRecDepth 100000 in
set_option maxHeartbeats 4000000 in
theorem rright_any (np cb : Nat) (pb : Option Addr) (x : CastV) (v0 : Value) (w : World) (hr : LArg (RList RSpan 2) 1 v0 x.rain w) (hnp : np ≤ 9223372036854775807) :
    Calls Try.prog 28 #[.agg #[.string ⟨#[]⟩, .slice none 0 0, .int .i64 0, .slice pb np cb, .slice none 0 0, .slice none 0 0, .slice none 0 0, .slice none 0 0, .slice none 0 0, .slice none 0 0, .int .i64 0], .agg #[.int .i64 x.id, .int .i64 x.src, v0]] w (RetB (rightB np x) w) := by
  obtain ⟨a0, q0, rfl, hq0, hqm⟩ := hr.slice
  unfold maxLen at hqm
  obtain ⟨r0, r1, rb⟩ := two_rowsK (w := w) (A := .cells #[.string ⟨#[]⟩, .slice none 0 0, .int .i64 0, .slice pb np cb, .slice none 0 0, .slice none 0 0, .slice none 0 0, .slice none 0 0, .slice none 0 0, .slice none 0 0, .int .i64 0] 48) (B := .cells #[.int .i64 x.id, .int .i64 x.src, .slice a0 x.rain.length q0] 27)
  have HR := Lib.hid hr
  clear hr
  go_enter Try.func28, Try.ntmps28
  go_upto_region 1 with fail
  generalize (w.alloc (.cells #[.string ⟨#[]⟩, .slice none 0 0, .int .i64 0, .slice pb np cb, .slice none 0 0, .slice none 0 0, .slice none 0 0, .slice none 0 0, .slice none 0 0, .slice none 0 0, .int .i64 0] 48)).alloc (.cells #[.int .i64 x.id, .int .i64 x.src, .slice a0 x.rain.length q0] 27) = w0 at *
  have HB0 := Lib.hid rb
  have HRB := Lib.hid r0
  have HRK := Lib.hid r1
  have c0 := rowN r1 0 (.int .i64 x.id) rfl
  have c1 := rowN r1 1 (.int .i64 x.src) rfl
  have c2 := rowN r1 2 (.slice a0 x.rain.length q0) rfl
  clear r0 r1 rb
  by_cases t1 : x.id < 0
  · have HE : Hid (rightB np x = false) := Lib.hid (rightB_no (fun hc => by have := hc.1.1; omega))
    go_wp2_with fail
    go_ret
    exact retB_mk HE.out HB0.out
  by_cases t2 : (1073741824 : Int) < x.id
  · have HE : Hid (rightB np x = false) := Lib.hid (rightB_no (fun hc => by have := hc.1.2; omega))
    go_wp2_with fail
    go_ret
    exact retB_mk HE.out HB0.out
  by_cases t3 : x.src < 0
  · have HE : Hid (rightB np x = false) := Lib.hid (rightB_no (fun hc => by have := hc.2.1.1; omega))
    go_wp2_with fail
    go_ret
    exact retB_mk HE.out HB0.out
  by_cases t4 : (16777216 : Int) < x.src
  · have HE : Hid (rightB np x = false) := Lib.hid (rightB_no (fun hc => by have := hc.2.1.2; omega))
    go_wp2_with fail
    go_ret
    exact retB_mk HE.out HB0.out
  by_cases t5 : (24 : Int) < (x.rain.length : Int)
  · have HE : Hid (rightB np x = false) := Lib.hid (rightB_no (fun hc => by have := hc.2.2.1; omega))
    go_wp2_with fail
    go_ret
    exact retB_mk HE.out HB0.out
  have HHD : Hid ((0 ≤ x.id ∧ x.id ≤ 1073741824) ∧ (0 ≤ x.src ∧ x.src ≤ 16777216) ∧ x.rain.length ≤ 24) := Lib.hid ⟨⟨by omega, by omega⟩, ⟨by omega, by omega⟩, by omega⟩
  go_wp2_with fail
  clear t1 t2 t3 t4 t5 c0 c1 c2
  go_loopw [5] (fun iv wr => ∃ k : Nat, k ≤ x.rain.length ∧ iv = .int .i64 k ∧ (∀ (i : Nat) (r : List SpanV), i < k → x.rain[i]? = some r → okRow np r) ∧ Below w0.heap.size w0 wr) (fun iv _ => x.rain.length - (intOf iv).toNat)
  case atStart => exact ⟨0, Nat.zero_le _, rfl, (fun i r hi => by omega), Below.refl _ _⟩
  case round =>
    obtain ⟨k, hk, rfl, hall, hB⟩ := hrel
    have HALL := Lib.hid hall
    have HB := Lib.hid hB
    clear hall hB
    have hcr := blk_below HRK.out HB.out (blk_lt HRK.out)
    have HC3 := Lib.hid (blk_lt hcr)
    have hc2 := rowN hcr 2 (.slice a0 x.rain.length q0) rfl
    clear hcr
    by_cases hlt : k < x.rain.length
    · obtain ⟨r, hrr⟩ : ∃ r, x.rain[k]? = some r := ⟨_, List.getElem?_eq_getElem hlt⟩
      obtain ⟨g, o, cs, ha, hbl, -, hrg, v, rfl, hrow⟩ := (HR.out.below (stays_list stays_Span 2) (HB0.out.trans (HB.out.mono HB0.out.size))).at hrr
      subst ha
      obtain ⟨a1, q1, rfl, hq1, hq2⟩ := hrow.slice
      unfold maxLen at hq2
      have ce := hrg 0 _ rfl
      simp only [Nat.mul_one, Nat.add_zero] at ce
      have HCE := Lib.hid ce
      have HGE := Lib.hid hbl
      have HROW := Lib.hid hrow
      have HRR := Lib.hid hrr
      have HBE := Lib.hid (HB0.out.trans (HB.out.mono HB0.out.size))
      have hbr := blk_below HRB.out HB.out (blk_lt HRB.out)
      have HB3C := Lib.hid (rowN hbr 3 (.slice pb np cb) rfl)
      have HB3L := Lib.hid (blk_lt hbr)
      have HC2 := Lib.hid hc2
      clear hrg hrow hrr hbr hbl
      by_cases hn : r.length = np
      rotate_left 1
      · have q1 : ((r.length : Int) != (np : Int)) = true := by rw [bne_iff_ne]; omega
        have HE : Hid (rightB np x = false) := Lib.hid (rightB_no (fun hc => hn (hc.2.2.2 r (List.mem_of_getElem? HRR.out)).1))
        clear hn
        go_upto_region 6 with fail
        refine wp_region_noPanic ?_
        refine wp_region_held_drew (S := fun w' => Below wr.heap.size wr w') (by kernel_rfl) (Below.refl _ _).drew (fun hHeld => ?_)
        refine' wpAnyH_take (i := 0) (v := _) (by simp only [List.getElem?_toArray, List.getElem?_cons_zero]; exact rfl) (by kernel_rfl) (by kernel_rfl) (by kernel_rfl) (fun _ _ _ h => h) (Or.inl ⟨by rfl, ?y0x1⟩) hHeld ?r0x1
        case y0x1 => (intro w hSw; (try dsimp only at hSw); go_simp; try with_reducible rfl)
        try simp only [Act.put, List.setIfInBounds_toArray, List.set_cons_zero, List.set_cons_succ]
        refine' wpAnyH_take (i := 1) (v := _) (by simp only [List.getElem?_toArray, List.getElem?_cons_succ, List.getElem?_cons_zero]; exact rfl) (by kernel_rfl) (by kernel_rfl) (by kernel_rfl) (fun _ _ _ h => h) (Or.inl ⟨by rfl, ?y1x2⟩) hHeld ?r1x2
        case y1x2 => (intro wz hSw; have e4 := (hSw.cell HC3.out).trans HC2.out; go_simp; try with_reducible rfl)
        try simp only [Act.put, List.setIfInBounds_toArray, List.set_cons_zero, List.set_cons_succ]
        refine' wpAnyH_take (i := 2) (v := _) (by simp only [List.getElem?_toArray, List.getElem?_cons_succ, List.getElem?_cons_zero]; exact rfl) (by kernel_rfl) (by kernel_rfl) (by kernel_rfl) (fun _ _ _ h => h) (Or.inl ⟨by rfl, ?y2x3⟩) hHeld ?r2x3
        case y2x3 => (intro w hSw; (try dsimp only at hSw); go_simp; try with_reducible rfl)
        try simp only [Act.put, List.setIfInBounds_toArray, List.set_cons_zero, List.set_cons_succ]
        refine' wpAnyH_take (i := 3) (v := _) (by simp only [List.getElem?_toArray, List.getElem?_cons_succ, List.getElem?_cons_zero]; exact rfl) (by kernel_rfl) (by kernel_rfl) (by kernel_rfl) (fun _ _ _ h => h) (Or.inl ⟨by rfl, ?y3x4⟩) hHeld ?r3x4
        case y3x4 => (intro w hSw; (try dsimp only at hSw); go_simp; try with_reducible rfl)
        try simp only [Act.put, List.setIfInBounds_toArray, List.set_cons_zero, List.set_cons_succ]
        refine' wpAnyH_take (i := 4) (v := _) (by simp only [List.getElem?_toArray, List.getElem?_cons_succ, List.getElem?_cons_zero]; exact rfl) (by kernel_rfl) (by kernel_rfl) (by kernel_rfl) (fun _ _ _ h => h) (Or.inl ⟨by rfl, ?y4x5⟩) hHeld ?r4x5
        case y4x5 => (intro wz hSw; have e4 := (hSw.cell HGE.out).trans HCE.out; go_simp; try with_reducible rfl)
        try simp only [Act.put, List.setIfInBounds_toArray, List.set_cons_zero, List.set_cons_succ]
        refine' wpAnyH_take (i := 5) (v := _) (by simp only [List.getElem?_toArray, List.getElem?_cons_succ, List.getElem?_cons_zero]; exact rfl) (by kernel_rfl) (by kernel_rfl) (by kernel_rfl) (fun _ _ _ h => h) (Or.inl ⟨by rfl, ?y5x6⟩) hHeld ?r5x6
        case y5x6 => (intro w hSw; (try dsimp only at hSw); go_simp; try with_reducible rfl)
        try simp only [Act.put, List.setIfInBounds_toArray, List.set_cons_zero, List.set_cons_succ]
        refine' wpAnyH_take (i := 6) (v := _) (by simp only [List.getElem?_toArray, List.getElem?_cons_succ, List.getElem?_cons_zero]; exact rfl) (by kernel_rfl) (by kernel_rfl) (by kernel_rfl) (fun _ _ _ h => h) (Or.inl ⟨by rfl, ?y6x7⟩) hHeld ?r6x7
        case y6x7 => (intro w hSw; (try dsimp only at hSw); go_simp; try with_reducible rfl)
        try simp only [Act.put, List.setIfInBounds_toArray, List.set_cons_zero, List.set_cons_succ]
        refine' wpAnyH_take (i := 7) (v := _) (by simp only [List.getElem?_toArray, List.getElem?_cons_succ, List.getElem?_cons_zero]; exact rfl) (by kernel_rfl) (by kernel_rfl) (by kernel_rfl) (fun _ _ _ h => h) (Or.inl ⟨by rfl, ?y7x8⟩) hHeld ?r7x8
        case y7x8 => (intro wz hSw; have e4 := (hSw.cell HB3L.out).trans HB3C.out; go_simp; try with_reducible rfl)
        try simp only [Act.put, List.setIfInBounds_toArray, List.set_cons_zero, List.set_cons_succ]
        refine' wpAnyH_take (i := 8) (v := _) (by simp only [List.getElem?_toArray, List.getElem?_cons_succ, List.getElem?_cons_zero]; exact rfl) (by kernel_rfl) (by kernel_rfl) (by kernel_rfl) (fun _ _ _ h => h) (Or.inl ⟨by rfl, ?y8x9⟩) hHeld ?r8x9
        case y8x9 => (intro w hSw; (try dsimp only at hSw); go_simp; try with_reducible rfl)
        try simp only [Act.put, List.setIfInBounds_toArray, List.set_cons_zero, List.set_cons_succ]
        refine' wpAnyH_take (i := 9) (v := _) (by simp only [List.getElem?_toArray, List.getElem?_cons_succ, List.getElem?_cons_zero]; exact rfl) (by kernel_rfl) (by kernel_rfl) (by kernel_rfl) (fun _ _ _ h => h) (Or.inl ⟨by rfl, ?y9x10⟩) hHeld ?r9x10
        case y9x10 => (intro w hSw; (try dsimp only at hSw); go_simp; try with_reducible rfl)
        try simp only [Act.put, List.setIfInBounds_toArray, List.set_cons_zero, List.set_cons_succ]
        refine wpAnyH_done (by kernel_rfl) ?_ _
        refine NoPanic.normal ?_
        have HBf := Lib.hid (HBE.out.trans (hHeld.mono HBE.out.size))
        go_wp2_with fail
        go_ret
        exact retB_mk HE.out HBf.out
      · have q1' : ((r.length : Int) != (np : Int)) = false := by rw [hn]; simp
        go_upto_region 6 with fail
        refine wp_region_noPanic ?_
        refine wp_region_held_drew (S := fun w' => Below wr.heap.size wr w') (by kernel_rfl) (Below.refl _ _).drew (fun hHeld => ?_)
        refine' wpAnyH_take (i := 0) (v := _) (by simp only [List.getElem?_toArray, List.getElem?_cons_zero]; exact rfl) (by kernel_rfl) (by kernel_rfl) (by kernel_rfl) (fun _ _ _ h => h) (Or.inl ⟨by rfl, ?y0x11⟩) hHeld ?r0x11
        case y0x11 => (intro w hSw; (try dsimp only at hSw); go_simp; try with_reducible rfl)
        try simp only [Act.put, List.setIfInBounds_toArray, List.set_cons_zero, List.set_cons_succ]
        refine' wpAnyH_take (i := 1) (v := _) (by simp only [List.getElem?_toArray, List.getElem?_cons_succ, List.getElem?_cons_zero]; exact rfl) (by kernel_rfl) (by kernel_rfl) (by kernel_rfl) (fun _ _ _ h => h) (Or.inl ⟨by rfl, ?y1x12⟩) hHeld ?r1x12
        case y1x12 => (intro wz hSw; have e4 := (hSw.cell HC3.out).trans HC2.out; go_simp; try with_reducible rfl)
        try simp only [Act.put, List.setIfInBounds_toArray, List.set_cons_zero, List.set_cons_succ]
        refine' wpAnyH_take (i := 2) (v := _) (by simp only [List.getElem?_toArray, List.getElem?_cons_succ, List.getElem?_cons_zero]; exact rfl) (by kernel_rfl) (by kernel_rfl) (by kernel_rfl) (fun _ _ _ h => h) (Or.inl ⟨by rfl, ?y2x13⟩) hHeld ?r2x13
        case y2x13 => (intro w hSw; (try dsimp only at hSw); go_simp; try with_reducible rfl)
        try simp only [Act.put, List.setIfInBounds_toArray, List.set_cons_zero, List.set_cons_succ]
        refine' wpAnyH_take (i := 3) (v := _) (by simp only [List.getElem?_toArray, List.getElem?_cons_succ, List.getElem?_cons_zero]; exact rfl) (by kernel_rfl) (by kernel_rfl) (by kernel_rfl) (fun _ _ _ h => h) (Or.inl ⟨by rfl, ?y3x14⟩) hHeld ?r3x14
        case y3x14 => (intro w hSw; (try dsimp only at hSw); go_simp; try with_reducible rfl)
        try simp only [Act.put, List.setIfInBounds_toArray, List.set_cons_zero, List.set_cons_succ]
        refine' wpAnyH_take (i := 4) (v := _) (by simp only [List.getElem?_toArray, List.getElem?_cons_succ, List.getElem?_cons_zero]; exact rfl) (by kernel_rfl) (by kernel_rfl) (by kernel_rfl) (fun _ _ _ h => h) (Or.inl ⟨by rfl, ?y4x15⟩) hHeld ?r4x15
        case y4x15 => (intro wz hSw; have e4 := (hSw.cell HGE.out).trans HCE.out; go_simp; try with_reducible rfl)
        try simp only [Act.put, List.setIfInBounds_toArray, List.set_cons_zero, List.set_cons_succ]
        refine' wpAnyH_take (i := 5) (v := _) (by simp only [List.getElem?_toArray, List.getElem?_cons_succ, List.getElem?_cons_zero]; exact rfl) (by kernel_rfl) (by kernel_rfl) (by kernel_rfl) (fun _ _ _ h => h) (Or.inl ⟨by rfl, ?y5x16⟩) hHeld ?r5x16
        case y5x16 => (intro w hSw; (try dsimp only at hSw); go_simp; try with_reducible rfl)
        try simp only [Act.put, List.setIfInBounds_toArray, List.set_cons_zero, List.set_cons_succ]
        refine' wpAnyH_take (i := 6) (v := _) (by simp only [List.getElem?_toArray, List.getElem?_cons_succ, List.getElem?_cons_zero]; exact rfl) (by kernel_rfl) (by kernel_rfl) (by kernel_rfl) (fun _ _ _ h => h) (Or.inl ⟨by rfl, ?y6x17⟩) hHeld ?r6x17
        case y6x17 => (intro w hSw; (try dsimp only at hSw); go_simp; try with_reducible rfl)
        try simp only [Act.put, List.setIfInBounds_toArray, List.set_cons_zero, List.set_cons_succ]
        refine' wpAnyH_take (i := 7) (v := _) (by simp only [List.getElem?_toArray, List.getElem?_cons_succ, List.getElem?_cons_zero]; exact rfl) (by kernel_rfl) (by kernel_rfl) (by kernel_rfl) (fun _ _ _ h => h) (Or.inl ⟨by rfl, ?y7x18⟩) hHeld ?r7x18
        case y7x18 => (intro wz hSw; have e4 := (hSw.cell HB3L.out).trans HB3C.out; go_simp; try with_reducible rfl)
        try simp only [Act.put, List.setIfInBounds_toArray, List.set_cons_zero, List.set_cons_succ]
        refine' wpAnyH_take (i := 8) (v := _) (by simp only [List.getElem?_toArray, List.getElem?_cons_succ, List.getElem?_cons_zero]; exact rfl) (by kernel_rfl) (by kernel_rfl) (by kernel_rfl) (fun _ _ _ h => h) (Or.inl ⟨by rfl, ?y8x19⟩) hHeld ?r8x19
        case y8x19 => (intro w hSw; (try dsimp only at hSw); go_simp; try with_reducible rfl)
        try simp only [Act.put, List.setIfInBounds_toArray, List.set_cons_zero, List.set_cons_succ]
        refine' wpAnyH_take (i := 9) (v := _) (by simp only [List.getElem?_toArray, List.getElem?_cons_succ, List.getElem?_cons_zero]; exact rfl) (by kernel_rfl) (by kernel_rfl) (by kernel_rfl) (fun _ _ _ h => h) (Or.inl ⟨by rfl, ?y9x20⟩) hHeld ?r9x20
        case y9x20 => (intro w hSw; (try dsimp only at hSw); go_simp; try with_reducible rfl)
        try simp only [Act.put, List.setIfInBounds_toArray, List.set_cons_zero, List.set_cons_succ]
        refine wpAnyH_done (by kernel_rfl) ?_ _
        refine NoPanic.normal ?_
        go_wp2_with fail
        generalize wr.drew = w2 at *
        have HD2 := Lib.hid hHeld
        clear hHeld ce q1' hc2
        go_loopw [6] (fun iv wy => ∃ j : Nat, j ≤ r.length ∧ iv = .int .i64 j ∧ (∀ (i : Nat) (s : SpanV), i < j → r[i]? = some s → okSp s) ∧ Below wr.heap.size wr wy) (fun iv _ => r.length - (intOf iv).toNat)
        case atStart => exact ⟨0, Nat.zero_le _, rfl, (fun i s hi => by omega), HD2.out⟩
        case round =>
          rename World => wy
          obtain ⟨j, hj, rfl, hsp, hBy⟩ := hrel
          have HSP := Lib.hid hsp
          have HBy := Lib.hid hBy
          have d2 := (hBy.cell HC3.out).trans HC2.out
          have de := (hBy.cell HGE.out).trans HCE.out
          clear hsp hBy
          by_cases hjl : j < r.length
          · obtain ⟨s, hs⟩ : ∃ s, r[j]? = some s := ⟨_, List.getElem?_eq_getElem hjl⟩
            obtain ⟨g1, o1, cs1, ha1, hbl1, -, hrg1, hcs1⟩ := (HROW.out.below stays_Span HBy.out).at hs
            subst ha1
            obtain ⟨rfl, -, -⟩ := hcs1
            have HSS := Lib.hid hs
            have HRG := Lib.hid hrg1
            have HS3 := Lib.hid (heap_alloc_new wy (.cells #[.int .i64 s.lo, .int .i64 s.hi] 54))
            have HB3 := Lib.hid (HBy.out.alloc HBy.out.size (.cells #[.int .i64 s.lo, .int .i64 s.hi] 54))
            have HF5 := Lib.hid (HBE.out.trans (HB3.out.mono HBE.out.size))
            clear hrg1 hs
            go_upto_region 12 with (refine wpList_load_range (by first | (go_simp; done) | rfl) 54 _ rfl _ _ rfl _ _ HRG.out undSp rfl infoSp ?_)
            clear HRG d2 de
            generalize wy.alloc (.cells #[.int .i64 s.lo, .int .i64 s.hi] 54) = w4 at *
            generalize wy.heap.size = bs at *
            have s0 := rowN HS3.out 0 (.int .i64 s.lo) rfl
            have s1 := rowN HS3.out 1 (.int .i64 s.hi) rfl
            have HNO : Hid (¬ okSp s → rightB np x = false) := Lib.hid fun hns => rightB_no (fun hc => hns ((hc.2.2.2 r (List.mem_of_getElem? HRR.out)).2 s (List.mem_of_getElem? HSS.out)))
            by_cases h1 : s.hi < s.lo
            · have HE := Lib.hid (HNO.out (fun hc => by have := hc.1; omega))
              go_wp2_with fail
              go_ret
              exact retB_mk HE.out HF5.out
            by_cases h2 : s.lo < 0
            · have HE := Lib.hid (HNO.out (fun hc => by have := hc.2.1; omega))
              go_wp2_with fail
              go_ret
              exact retB_mk HE.out HF5.out
            by_cases h3 : (1125899906842624 : Int) < s.hi
            · have HE := Lib.hid (HNO.out (fun hc => by have := hc.2.2; omega))
              go_wp2_with fail
              go_ret
              exact retB_mk HE.out HF5.out
            have HNX := Lib.hid (upto_succ (P := okSp) HSP.out HSS.out ⟨by omega, by omega, by omega⟩)
            go_wp2_with fail
            go_roundw
            case rel => exact ⟨j + 1, by omega, by go_num, HNX.out, HB3.out⟩
            case measure => simp [intOf]; omega
          · obtain rfl : j = r.length := by omega
            have HNX := Lib.hid (upto_succ (P := okRow np) HALL.out HRR.out ⟨hn, upto_all HSP.out⟩)
            have HBN := Lib.hid (HB.out.trans (HBy.out.mono HB.out.size))
            clear hjl hj
            go_wp2_with fail
            go_roundw
            case rel => exact ⟨k + 1, by omega, by go_num, HNX.out, HBN.out⟩
            case measure => simp [intOf]; omega
    · obtain rfl : k = x.rain.length := by omega
      have HE : Hid (rightB np x = true) := Lib.hid (rightB_yes ⟨HHD.out.1, HHD.out.2.1, HHD.out.2.2, upto_all HALL.out⟩)
      clear hlt hk
      go_wp2_with fail
      go_ret
      exact retB_mk HE.out (HB0.out.trans (HB.out.mono HB0.out.size))
set_option maxRecDepth 100000 in
set_option maxHeartbeats 1000000 in
theorem rhas_any (s : SpanV) (n : Int) (w : World) : Calls Try.prog 45 #[.agg #[.int .i64 s.lo, .int .i64 s.hi], .int .i64 n] w (RetB (hasS s n) w) := by
  by_cases h1 : s.lo ≤ n
  · by_cases h2 : n ≤ s.hi
    · have HE : Hid (hasS s n = true) := Lib.hid (hasS_iff.2 ⟨h1, h2⟩)
      go_enter Try.func45, Try.ntmps45
      go_wp2_with fail
      go_ret
      exact retB_mk HE.out ((Below.refl _ _).alloc (Nat.le_refl _) _)
    · have HE : Hid (hasS s n = false) := Lib.hid (by unfold hasS; simp [h2])
      go_enter Try.func45, Try.ntmps45
      go_wp2_with fail
      go_ret
      exact retB_mk HE.out ((Below.refl _ _).alloc (Nat.le_refl _) _)
  · have HE : Hid (hasS s n = false) := Lib.hid (by unfold hasS; simp [h1])
    go_enter Try.func45, Try.ntmps45
    go_wp2_with fail
    go_ret
    exact retB_mk HE.out ((Below.refl _ _).alloc (Nat.le_refl _) _)
theorem eqSp (a b a' b' : Int) (w : World) : (Op.equalIn 10000 54 (.agg #[.int .i64 a, .int .i64 b]) (.agg #[.int .i64 a', .int .i64 b'])).run Try.prog w = .ok (decide (a = a' ∧ b = b')) w := by
  have u3 := Try.underlying3
  have a3 := Try.isAgg3
  have z3 := Try.sizeOf3
  have hS : Try.prog.underlying 54 = some (.struct (Try.prog.fieldsOf 54)) := by kernel_rfl
  have hp : Try.prog.stoodInHeld 54 = false := by kernel_rfl
  rw [show (10000 : Nat) = 9999 + 1 from rfl, run_equalIn_agg w 9999 54 _ _ hS hp]
  simp only [Program.fieldsOf, Try.underlying54]
  go_simp
  by_cases h1 : a = a' <;> by_cases h2 : b = b' <;> simp [h1, h2]
set_option maxRecDepth 100000 in
set_option maxHeartbeats 4000000 in
theorem sameSp_any (l : List SpanV) (va vb : Value) (w : World) (ha : LArg RSpan 2 va l w) (hb : LArg RSpan 2 vb l w) (hl : l.length ≤ 1000) :
    Calls Try.prog 25 #[va, vb] w fun e w' => e = .returned (.bool true) ∧ Below w.heap.size w w' := by
  obtain ⟨pa, ca, rfl, -, -⟩ := ha.slice
  obtain ⟨pb, cb, rfl, -, -⟩ := hb.slice
  have HLA := Lib.hid ha
  have HLB := Lib.hid hb
  clear ha hb
  go_enter Try.func25, Try.ntmps25
  go_wp2_with fail
  go_loopw [5] (fun iv wr => ∃ k : Nat, k ≤ l.length ∧ iv = .int .i64 k ∧ Below w.heap.size w wr) (fun iv _ => l.length - (intOf iv).toNat)
  case atStart => exact ⟨0, Nat.zero_le _, rfl, Below.refl _ _⟩
  case round =>
    obtain ⟨k, hk, rfl, hB⟩ := hrel
    have HB := Lib.hid hB
    clear hB
    by_cases hlt : k < l.length
    · obtain ⟨x, hx⟩ : ∃ x, l[k]? = some x := ⟨_, List.getElem?_eq_getElem hlt⟩
      obtain ⟨g, o, cs, ha, hgl, -, hrg, rfl, -, -⟩ := (HLA.out.below stays_Span HB.out).at hx
      subst ha
      obtain ⟨g1, o1, cs1, ha1, hgl1, -, hrg1, rfl, -, -⟩ := (HLB.out.below stays_Span HB.out).at hx
      subst ha1
      have HG := Lib.hid hrg
      have HH := Lib.hid hrg1
      have HGL := Lib.hid hgl
      have HHL := Lib.hid hgl1
      have hlt' : (k : Int) < (l.length : Int) := by omega
      have hneq : ∀ W, (Op.equalIn 10000 54 (.agg #[.int .i64 x.lo, .int .i64 x.hi]) (.agg #[.int .i64 x.lo, .int .i64 x.hi])).run Try.prog W = .ok true W := fun W => by rw [eqSp]; simp
      clear hrg hrg1 hgl hgl1 hx
      go_upto_region 6 with fail
      refine wp_region_noPanic ?_
      refine wp_region_held_drew (S := fun w' => Below wr.heap.size wr w') (by kernel_rfl) (Below.refl _ _).drew (fun hHeld => ?_)
      refine' wpAnyH_take (i := 0) (v := _) (by simp only [List.getElem?_toArray, List.getElem?_cons_zero]; exact rfl) (by kernel_rfl) (by kernel_rfl) (by kernel_rfl) (fun _ _ _ h => h) (Or.inl ⟨by rfl, ?y0x21⟩) hHeld ?r0x21
      case y0x21 => (intro w hSw; (try dsimp only at hSw); go_simp; try with_reducible rfl)
      try simp only [Act.put, List.setIfInBounds_toArray, List.set_cons_zero, List.set_cons_succ]
      refine' wpAnyH_take (i := 1) (v := _) (by simp only [List.getElem?_toArray, List.getElem?_cons_succ, List.getElem?_cons_zero]; exact rfl) (by kernel_rfl) (by kernel_rfl) (by kernel_rfl) (fun _ _ _ h => h) (Or.inl ⟨by rfl, ?y1x22⟩) hHeld ?r1x22
      case y1x22 => (intro w hSw; (try dsimp only at hSw); go_simp; try with_reducible rfl)
      try simp only [Act.put, List.setIfInBounds_toArray, List.set_cons_zero, List.set_cons_succ]
      refine' wpAnyH_take (i := 2) (v := _) (by simp only [List.getElem?_toArray, List.getElem?_cons_succ, List.getElem?_cons_zero]; exact rfl) (by kernel_rfl) (by kernel_rfl) (by kernel_rfl) (fun _ _ _ h => h) (Or.inl ⟨by rfl, ?y2x23⟩) hHeld ?r2x23
      case y2x23 => (intro w hSw; (try dsimp only at hSw); go_simp; try with_reducible rfl)
      try simp only [Act.put, List.setIfInBounds_toArray, List.set_cons_zero, List.set_cons_succ]
      refine' wpAnyH_take (i := 3) (v := _) (by simp only [List.getElem?_toArray, List.getElem?_cons_succ, List.getElem?_cons_zero]; exact rfl) (by kernel_rfl) (by kernel_rfl) (by kernel_rfl) (fun _ _ _ h => h) (Or.inl ⟨by rfl, ?y3x24⟩) hHeld ?r3x24
      case y3x24 => (intro wz hSw; refine exec_load_range 54 ?_ ?_ _ _ ?_ _ _ (range_below HG.out hSw HGL.out) undSp rfl infoSp; rotate_left 1; exact rfl; exact rfl)
      try simp only [Act.put, List.setIfInBounds_toArray, List.set_cons_zero, List.set_cons_succ]
      refine' wpAnyH_take (i := 4) (v := _) (by simp only [List.getElem?_toArray, List.getElem?_cons_succ, List.getElem?_cons_zero]; exact rfl) (by kernel_rfl) (by kernel_rfl) (by kernel_rfl) (fun _ _ _ h => h) (Or.inl ⟨by rfl, ?y4x25⟩) hHeld ?r4x25
      case y4x25 => (intro w hSw; (try dsimp only at hSw); go_simp; try with_reducible rfl)
      try simp only [Act.put, List.setIfInBounds_toArray, List.set_cons_zero, List.set_cons_succ]
      refine' wpAnyH_take (i := 5) (v := _) (by simp only [List.getElem?_toArray, List.getElem?_cons_succ, List.getElem?_cons_zero]; exact rfl) (by kernel_rfl) (by kernel_rfl) (by kernel_rfl) (fun _ _ _ h => h) (Or.inl ⟨by rfl, ?y5x26⟩) hHeld ?r5x26
      case y5x26 => (intro w hSw; (try dsimp only at hSw); go_simp; try with_reducible rfl)
      try simp only [Act.put, List.setIfInBounds_toArray, List.set_cons_zero, List.set_cons_succ]
      refine' wpAnyH_take (i := 6) (v := _) (by simp only [List.getElem?_toArray, List.getElem?_cons_succ, List.getElem?_cons_zero]; exact rfl) (by kernel_rfl) (by kernel_rfl) (by kernel_rfl) (fun _ _ _ h => h) (Or.inl ⟨by rfl, ?y6x27⟩) hHeld ?r6x27
      case y6x27 => (intro w hSw; (try dsimp only at hSw); go_simp; try with_reducible rfl)
      try simp only [Act.put, List.setIfInBounds_toArray, List.set_cons_zero, List.set_cons_succ]
      refine' wpAnyH_take (i := 7) (v := _) (by simp only [List.getElem?_toArray, List.getElem?_cons_succ, List.getElem?_cons_zero]; exact rfl) (by kernel_rfl) (by kernel_rfl) (by kernel_rfl) (fun _ _ _ h => h) (Or.inl ⟨by rfl, ?y7x28⟩) hHeld ?r7x28
      case y7x28 => (intro wz hSw; refine exec_load_range 54 ?_ ?_ _ _ ?_ _ _ (range_below HH.out hSw HHL.out) undSp rfl infoSp; rotate_left 1; exact rfl; exact rfl)
      try simp only [Act.put, List.setIfInBounds_toArray, List.set_cons_zero, List.set_cons_succ]
      refine' wpAnyH_take (i := 8) (v := _) (by simp only [List.getElem?_toArray, List.getElem?_cons_succ, List.getElem?_cons_zero]; exact rfl) (by kernel_rfl) (by kernel_rfl) (by kernel_rfl) (fun _ _ _ h => h) (Or.inl ⟨by rfl, ?y8x29⟩) hHeld ?r8x29
      case y8x29 => (intro w hSw; (try dsimp only at hSw); go_simp; try with_reducible rfl)
      try simp only [Act.put, List.setIfInBounds_toArray, List.set_cons_zero, List.set_cons_succ]
      refine wpAnyH_done (by kernel_rfl) ?_ _
      refine NoPanic.normal ?_
      have HBn := Lib.hid (HB.out.trans (hHeld.mono HB.out.size))
      go_wp2_with fail
      go_roundw
      case rel => exact ⟨k + 1, by omega, by go_num, HBn.out⟩
      case measure => simp [intOf]; omega
    · obtain rfl : k = l.length := by omega
      go_wp2_with fail
      go_ret
      exact ⟨rfl, HB.out⟩
set_option maxRecDepth 100000 in
set_option maxHeartbeats 1000000 in
theorem at_out (x : CastV) (v0 : Value) (h n : Int) (w : World) (hn : n < 1 ∨ 64 < n) :
    Calls Try.prog 17 #[.agg #[.int .i64 x.id, .int .i64 x.src, v0], .int .i64 h, .int .i64 n] w fun e w' => e = .returned (.slice none 0 0) ∧ Below w.heap.size w w' := by
  by_cases h1 : n < 1
  · go_enter Try.func17, Try.ntmps17
    go_wp2_with fail
    go_ret
    exact ⟨rfl, (Below.refl _ _).alloc (Nat.le_refl _) _⟩
  · have h2 : 64 < n := by omega
    go_enter Try.func17, Try.ntmps17
    go_wp2_with fail
    go_ret
    exact ⟨rfl, (Below.refl _ _).alloc (Nat.le_refl _) _⟩
set_option maxRecDepth 100000 in
set_option maxHeartbeats 1000000 in
theorem rat_out (x : CastV) (v0 : Value) (h n : Int) (w : World) (hn : n < 1 ∨ 64 < n) :
    Calls Try.prog 26 #[.agg #[.int .i64 x.id, .int .i64 x.src, v0], .int .i64 h, .int .i64 n] w fun e w' => e = .returned (.slice none 0 0) ∧ Below w.heap.size w w' := by
  by_cases h1 : n < 1
  · go_enter Try.func26, Try.ntmps26
    go_wp2_with fail
    go_ret
    exact ⟨rfl, (Below.refl _ _).alloc (Nat.le_refl _) _⟩
  · have h2 : 64 < n := by omega
    go_enter Try.func26, Try.ntmps26
    go_wp2_with fail
    go_ret
    exact ⟨rfl, (Below.refl _ _).alloc (Nat.le_refl _) _⟩
end Go.Proofs.Ytleiiedacachjaa
