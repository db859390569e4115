/- bournelaw29.rows: the encodings of the hours of a forecast. -/
import Derived.Test.YtleiiedacachjaaKBytes
import Derived.Test.YtleiiedacachjaaReg
import Derived.Test.YtleiiedacachjaaWRefN
namespace Go.Proofs.Ytleiiedacachjaa
open Go.RowKit
def rowS (r : List SpanV) : ByteArray := ⟨(rowB r).toArray⟩
theorem infoStr : (Try.prog.info? 9).map (fun i => (i.zero, i.size, i.bytes)) = some (some (.string ⟨#[]⟩), 1, 16) := by kernel_rfl
theorem undSts : Try.prog.underlying 38 = some (.slice 9) := by kernel_rfl
theorem str_new (w : World) (a : ByteArray) : ∀ j u, ([Value.string a])[j]? = some u → (w.alloc (.cells #[.string a] 9)).cell? ((⟨w.heap.size, 0, none⟩ : Addr).add j) = some u := fun j u hj => by
  rw [Addr.add_mid, Nat.zero_add, cell_of_row _ _ _ _ _ _ (heap_alloc_new w (.cells #[.string a] 9)), ← Array.getElem?_toList]
  exact hj
theorem rows_take {l : List (List SpanV)} {k : Nat} {r : List SpanV} (h : l[k]? = some r) : ((l.take (k + 1)).map rowS).map Value.string = ((l.take k).map rowS).map Value.string ++ [.string (rowS r)] := by
  rw [List.take_add_one, h]
  simp
set_option maxRecDepth 100000 in
set_option maxHeartbeats 8000000 in
theorem rows_any (x : CastV) (v0 : Value) (w : World) (hr : LArg (RList RSpan 2) 1 v0 x.rain w) (hsp : ∀ r ∈ x.rain, SpanI r) (hl : x.rain.length ≤ 30) (hq : ∀ r ∈ x.rain, r.length ≤ 70) :
    Calls Try.prog 15 #[.agg #[.int .i64 x.id, .int .i64 x.src, v0]] w fun e w' => ∃ v, e = .returned v ∧ CArg Value.string v (x.rain.map rowS) w' ∧ Below w.heap.size w w' := by
  obtain ⟨iI, hiI, hzI, hsI, hbI⟩ := info_parts infoIn
  obtain ⟨iS, hiS, hzS, hsS, hbS⟩ := info_parts infoStr
  obtain ⟨a0, q0, rfl, -, -⟩ := hr.slice
  have HR := Lib.hid hr
  have HSP := Lib.hid hsp
  have HQ := Lib.hid hq
  clear hr hsp hq
  go_enter Try.func15, Try.ntmps15
  go_upto_region 1 with fail
  have HC0 := Lib.hid (heap_alloc_new w (.cells #[.int .i64 x.id, .int .i64 x.src, .slice a0 x.rain.length q0] 27))
  have HB0 := Lib.hid ((Below.refl w.heap.size w).alloc (Nat.le_refl _) (.cells #[.int .i64 x.id, .int .i64 x.src, .slice a0 x.rain.length q0] 27))
  generalize w.alloc (.cells #[.int .i64 x.id, .int .i64 x.src, .slice a0 x.rain.length q0] 27) = w0 at *
  have HR0 := Lib.hid (HR.out.below (stays_list stays_Span 2) HB0.out)
  clear HR
  go_wp2_with fail
  go_loopw [3, 4] (fun tv iv wr => ∃ k : Nat, k ≤ x.rain.length ∧ iv = .int .i64 k ∧ wr.ownsRow w0.heap.size 9 1 tv k (((x.rain.take k).map rowS).map Value.string) ∧ Below w0.heap.size w0 wr) (fun _ iv _ => x.rain.length - (intOf iv).toNat)
  case atStart => exact ⟨0, Nat.zero_le _, rfl, World.ownsRow_nil _ _ _ _, Below.refl _ _⟩
  case round =>
    rename World => w2
    obtain ⟨k, hk, rfl, hown, hB⟩ := hrel
    have HT := Lib.hid hown
    have HB := Lib.hid hB
    clear hown hB
    have HC2 := Lib.hid (blk_below HC0.out HB.out (blk_lt HC0.out))
    have c2 := rowN HC2.out 2 (.slice a0 x.rain.length q0) rfl
    by_cases hlt : k < x.rain.length
    · obtain ⟨r, hrr⟩ : ∃ r, x.rain[k]? = some r := ⟨_, List.getElem?_eq_getElem hlt⟩
      obtain ⟨g, o, cs, ha, hbl, -, hrg, v, rfl, hrow⟩ := (HR0.out.below (stays_list stays_Span 2) HB.out).at hrr
      subst ha
      obtain ⟨a1, q1, rfl, -, -⟩ := hrow.slice
      have ce := hrg 0 _ rfl
      simp only [Nat.mul_one, Nat.add_zero] at ce
      have hm := List.mem_of_getElem? hrr
      have hq1 := HQ.out r hm
      have HSI := Lib.hid (HSP.out r hm)
      have HROW := Lib.hid hrow
      have HRT := Lib.hid (rows_take hrr)
      have HGL := Lib.hid hbl
      have HCE := Lib.hid ce
      have hlt' : (k : Int) < (x.rain.length : Int) := by omega
      clear hrg hrow hrr hm ce hbl
      go_wp2_with fail
      clear c2 hlt'
      go_loopw [5, 6] (fun v iv wy => ∃ j : Nat, j ≤ r.length ∧ iv = .int .i64 j ∧ wy.ownsRow w2.heap.size 3 1 v (2 * j) ((endsL (r.take j)).map (Value.int .i64)) ∧ Below w2.heap.size w2 wy) (fun _ iv _ => r.length - (intOf iv).toNat)
      case atStart => exact ⟨0, Nat.zero_le _, rfl, World.ownsRow_nil _ _ _ _, Below.refl _ _⟩
      case round =>
        obtain ⟨j, hj, rfl, hown, hBy⟩ := hrel
        have HO := Lib.hid hown
        have HBy := Lib.hid hBy
        clear hown hBy
        have c2 := (HBy.out.cell (blk_lt HC2.out)).trans (rowN HC2.out 2 (.slice (some ⟨g, o, none⟩) x.rain.length q0) rfl)
        have ce := (HBy.out.cell HGL.out).trans HCE.out
        have hlt' : (k : Int) < (x.rain.length : Int) := by omega
        by_cases hjl : j < r.length
        · obtain ⟨s, hs⟩ : ∃ s, r[j]? = some s := ⟨_, List.getElem?_eq_getElem hjl⟩
          obtain ⟨g1, o1, cs1, ha1, hbl1, -, hrg1, rfl, -, -⟩ := HROW.out.at hs
          subst ha1
          have HE := Lib.hid (ends_take hs)
          have HG1 := Lib.hid hbl1
          have HLO : Hid (w2.cell? ⟨g1, o1 + j * 2, none⟩ = some (.int .i64 s.lo)) := Lib.hid (hrg1 0 _ rfl)
          have HHI : Hid (w2.cell? ⟨g1, o1 + j * 2 + 1, none⟩ = some (.int .i64 s.hi)) := Lib.hid (hrg1 1 _ rfl)
          have hjl' : (j : Int) < (r.length : Int) := by omega
          clear hrg1 hs hbl1
          go_upto_region 9 with fail
          clear c2 ce
          refine wp_region_noPanic ?_
          refine wp_region_held_drew (S := fun w' => Below w2.heap.size w2 w') (by kernel_rfl) HBy.out.drew (fun hHeld => ?_)
          refine' wpAnyH_take (i := 0) (v := _) (by simp only [List.getElem?_toArray, List.getElem?_cons_zero]; exact rfl) (by kernel_rfl) (by kernel_rfl) (by kernel_rfl) (fun _ _ _ h => h) (Or.inl ⟨by rfl, ?y0x1⟩) hHeld ?r0x1
          case y0x1 => (intro w hSw; (try dsimp only at hSw); go_simp; try with_reducible rfl)
          try simp only [Act.put, List.setIfInBounds_toArray, List.set_cons_zero, List.set_cons_succ]
          refine' wpAnyH_take (i := 1) (v := _) (by simp only [List.getElem?_toArray, List.getElem?_cons_succ, List.getElem?_cons_zero]; exact rfl) (by kernel_rfl) (by kernel_rfl) (by kernel_rfl) (fun _ _ _ h => h) (Or.inl ⟨by rfl, ?y1x2⟩) hHeld ?r1x2
          case y1x2 => (intro w hSw; (try dsimp only at hSw); go_simp; try with_reducible rfl)
          try simp only [Act.put, List.setIfInBounds_toArray, List.set_cons_zero, List.set_cons_succ]
          refine' wpAnyH_take (i := 2) (v := _) (by simp only [List.getElem?_toArray, List.getElem?_cons_succ, List.getElem?_cons_zero]; exact rfl) (by kernel_rfl) (by kernel_rfl) (by kernel_rfl) (fun _ _ _ h => h) (Or.inl ⟨by rfl, ?y2x3⟩) hHeld ?r2x3
          case y2x3 => (intro wz hSw; have e2 := (hSw.cell (blk_lt HC2.out)).trans (rowN HC2.out 2 _ rfl); go_simp; try with_reducible rfl)
          try simp only [Act.put, List.setIfInBounds_toArray, List.set_cons_zero, List.set_cons_succ]
          refine' wpAnyH_take (i := 3) (v := _) (by simp only [List.getElem?_toArray, List.getElem?_cons_succ, List.getElem?_cons_zero]; exact rfl) (by kernel_rfl) (by kernel_rfl) (by kernel_rfl) (fun _ _ _ h => h) (Or.inl ⟨by rfl, ?y3x4⟩) hHeld ?r3x4
          case y3x4 => (intro w hSw; (try dsimp only at hSw); go_simp; try with_reducible rfl)
          try simp only [Act.put, List.setIfInBounds_toArray, List.set_cons_zero, List.set_cons_succ]
          refine' wpAnyH_take (i := 4) (v := _) (by simp only [List.getElem?_toArray, List.getElem?_cons_succ, List.getElem?_cons_zero]; exact rfl) (by kernel_rfl) (by kernel_rfl) (by kernel_rfl) (fun _ _ _ h => h) (Or.inl ⟨by rfl, ?y4x5⟩) hHeld ?r4x5
          case y4x5 => (intro w hSw; (try dsimp only at hSw); go_simp; try with_reducible rfl)
          try simp only [Act.put, List.setIfInBounds_toArray, List.set_cons_zero, List.set_cons_succ]
          refine' wpAnyH_take (i := 5) (v := _) (by simp only [List.getElem?_toArray, List.getElem?_cons_succ, List.getElem?_cons_zero]; exact rfl) (by kernel_rfl) (by kernel_rfl) (by kernel_rfl) (fun _ _ _ h => h) (Or.inl ⟨by rfl, ?y5x6⟩) hHeld ?r5x6
          case y5x6 => (intro wz hSw; have e3 := (hSw.cell HGL.out).trans HCE.out; go_simp; try with_reducible rfl)
          try simp only [Act.put, List.setIfInBounds_toArray, List.set_cons_zero, List.set_cons_succ]
          refine' wpAnyH_take (i := 6) (v := _) (by simp only [List.getElem?_toArray, List.getElem?_cons_succ, List.getElem?_cons_zero]; exact rfl) (by kernel_rfl) (by kernel_rfl) (by kernel_rfl) (fun _ _ _ h => h) (Or.inl ⟨by rfl, ?y6x7⟩) hHeld ?r6x7
          case y6x7 => (intro w hSw; (try dsimp only at hSw); go_simp; try with_reducible rfl)
          try simp only [Act.put, List.setIfInBounds_toArray, List.set_cons_zero, List.set_cons_succ]
          refine' wpAnyH_take (i := 7) (v := _) (by simp only [List.getElem?_toArray, List.getElem?_cons_succ, List.getElem?_cons_zero]; exact rfl) (by kernel_rfl) (by kernel_rfl) (by kernel_rfl) (fun _ _ _ h => h) (Or.inl ⟨by rfl, ?y7x8⟩) hHeld ?r7x8
          case y7x8 => (intro w hSw; (try dsimp only at hSw); go_simp; try with_reducible rfl)
          try simp only [Act.put, List.setIfInBounds_toArray, List.set_cons_zero, List.set_cons_succ]
          refine' wpAnyH_take (i := 8) (v := _) (by simp only [List.getElem?_toArray, List.getElem?_cons_succ, List.getElem?_cons_zero]; exact rfl) (by kernel_rfl) (by kernel_rfl) (by kernel_rfl) (fun _ _ _ h => h) (Or.inl ⟨by rfl, ?y8x9⟩) hHeld ?r8x9
          case y8x9 => (intro w hSw; (try dsimp only at hSw); go_simp; try with_reducible rfl)
          try simp only [Act.put, List.setIfInBounds_toArray, List.set_cons_zero, List.set_cons_succ]
          refine' wpAnyH_take (i := 9) (v := _) (by simp only [List.getElem?_toArray, List.getElem?_cons_succ, List.getElem?_cons_zero]; exact rfl) (by kernel_rfl) (by kernel_rfl) (by kernel_rfl) (fun _ _ _ h => h) (Or.inl ⟨by rfl, ?y9x10⟩) hHeld ?r9x10
          case y9x10 => (intro wz hSw; have e4 := (hSw.cell HG1.out).trans HLO.out; go_simp; try with_reducible rfl)
          try simp only [Act.put, List.setIfInBounds_toArray, List.set_cons_zero, List.set_cons_succ]
          refine' wpAnyH_take (i := 10) (v := _) (by simp only [List.getElem?_toArray, List.getElem?_cons_succ, List.getElem?_cons_zero]; exact rfl) (by kernel_rfl) (by kernel_rfl) (by kernel_rfl) (fun _ _ _ h => h) (Or.inl ⟨by rfl, ?y10x11⟩) hHeld ?r10x11
          case y10x11 => (intro w hSw; (try dsimp only at hSw); go_simp; try with_reducible rfl)
          try simp only [Act.put, List.setIfInBounds_toArray, List.set_cons_zero, List.set_cons_succ]
          refine' wpAnyH_take (i := 11) (v := _) (by simp only [List.getElem?_toArray, List.getElem?_cons_succ, List.getElem?_cons_zero]; exact rfl) (by kernel_rfl) (by kernel_rfl) (by kernel_rfl) (fun _ _ _ h => h) (Or.inl ⟨by rfl, ?y11x12⟩) hHeld ?r11x12
          case y11x12 => (intro wz hSw; have e2 := (hSw.cell (blk_lt HC2.out)).trans (rowN HC2.out 2 _ rfl); go_simp; try with_reducible rfl)
          try simp only [Act.put, List.setIfInBounds_toArray, List.set_cons_zero, List.set_cons_succ]
          refine' wpAnyH_take (i := 12) (v := _) (by simp only [List.getElem?_toArray, List.getElem?_cons_succ, List.getElem?_cons_zero]; exact rfl) (by kernel_rfl) (by kernel_rfl) (by kernel_rfl) (fun _ _ _ h => h) (Or.inl ⟨by rfl, ?y12x13⟩) hHeld ?r12x13
          case y12x13 => (intro w hSw; (try dsimp only at hSw); go_simp; try with_reducible rfl)
          try simp only [Act.put, List.setIfInBounds_toArray, List.set_cons_zero, List.set_cons_succ]
          refine' wpAnyH_take (i := 13) (v := _) (by simp only [List.getElem?_toArray, List.getElem?_cons_succ, List.getElem?_cons_zero]; exact rfl) (by kernel_rfl) (by kernel_rfl) (by kernel_rfl) (fun _ _ _ h => h) (Or.inl ⟨by rfl, ?y13x14⟩) hHeld ?r13x14
          case y13x14 => (intro w hSw; (try dsimp only at hSw); go_simp; try with_reducible rfl)
          try simp only [Act.put, List.setIfInBounds_toArray, List.set_cons_zero, List.set_cons_succ]
          refine' wpAnyH_take (i := 14) (v := _) (by simp only [List.getElem?_toArray, List.getElem?_cons_succ, List.getElem?_cons_zero]; exact rfl) (by kernel_rfl) (by kernel_rfl) (by kernel_rfl) (fun _ _ _ h => h) (Or.inl ⟨by rfl, ?y14x15⟩) hHeld ?r14x15
          case y14x15 => (intro wz hSw; have e3 := (hSw.cell HGL.out).trans HCE.out; go_simp; try with_reducible rfl)
          try simp only [Act.put, List.setIfInBounds_toArray, List.set_cons_zero, List.set_cons_succ]
          refine' wpAnyH_take (i := 15) (v := _) (by simp only [List.getElem?_toArray, List.getElem?_cons_succ, List.getElem?_cons_zero]; exact rfl) (by kernel_rfl) (by kernel_rfl) (by kernel_rfl) (fun _ _ _ h => h) (Or.inl ⟨by rfl, ?y15x16⟩) hHeld ?r15x16
          case y15x16 => (intro w hSw; (try dsimp only at hSw); go_simp; try with_reducible rfl)
          try simp only [Act.put, List.setIfInBounds_toArray, List.set_cons_zero, List.set_cons_succ]
          refine' wpAnyH_take (i := 16) (v := _) (by simp only [List.getElem?_toArray, List.getElem?_cons_succ, List.getElem?_cons_zero]; exact rfl) (by kernel_rfl) (by kernel_rfl) (by kernel_rfl) (fun _ _ _ h => h) (Or.inl ⟨by rfl, ?y16x17⟩) hHeld ?r16x17
          case y16x17 => (intro w hSw; (try dsimp only at hSw); go_simp; try with_reducible rfl)
          try simp only [Act.put, List.setIfInBounds_toArray, List.set_cons_zero, List.set_cons_succ]
          refine' wpAnyH_take (i := 17) (v := _) (by simp only [List.getElem?_toArray, List.getElem?_cons_succ, List.getElem?_cons_zero]; exact rfl) (by kernel_rfl) (by kernel_rfl) (by kernel_rfl) (fun _ _ _ h => h) (Or.inl ⟨by rfl, ?y17x18⟩) hHeld ?r17x18
          case y17x18 => (intro w hSw; (try dsimp only at hSw); go_simp; try with_reducible rfl)
          try simp only [Act.put, List.setIfInBounds_toArray, List.set_cons_zero, List.set_cons_succ]
          refine' wpAnyH_take (i := 18) (v := _) (by simp only [List.getElem?_toArray, List.getElem?_cons_succ, List.getElem?_cons_zero]; exact rfl) (by kernel_rfl) (by kernel_rfl) (by kernel_rfl) (fun _ _ _ h => h) (Or.inl ⟨by rfl, ?y18x19⟩) hHeld ?r18x19
          case y18x19 => (intro wz hSw; have e4 := (hSw.cell HG1.out).trans HHI.out; go_simp; try with_reducible rfl)
          try simp only [Act.put, List.setIfInBounds_toArray, List.set_cons_zero, List.set_cons_succ]
          refine wpAnyH_ready (rs := [19]) (by kernel_rfl) (by simp) ?_
          refine AllReadyH.cons (by simp only [List.getElem?_toArray, List.getElem?_cons_succ, List.getElem?_cons_zero]; exact rfl) (fun K hK => ?_) AllReadyH.nil
          go_simp
          refine hK.out _ _ (HBy.out.alloc HBy.out.size (.cells #[.int .i64 s.lo, .int .i64 s.hi] 3)).drew (fun hHeld => ?_)
          clear hK K
          try simp only [Act.put, List.setIfInBounds_toArray, List.set_cons_zero, List.set_cons_succ]
          refine wpAnyH_ready (rs := [20]) (by kernel_rfl) (by simp) ?_
          refine AllReadyH.cons (by simp only [List.getElem?_toArray, List.getElem?_cons_succ, List.getElem?_cons_zero]; exact rfl) (fun K hK => ?_) AllReadyH.nil
          refine step_append_own rfl _ _ 36 rfl w2.heap.size 3 iI (.int .i64 0) 1 8 undIs hiI hzI hsI hbI rfl (by decide) _ (2 * j) _ rfl (HO.out.alloc (.cells #[.int .i64 s.lo, .int .i64 s.hi] 3)).drew ⟨wr.heap.size, 0, none⟩ 2 2 [.int .i64 s.lo, .int .i64 s.hi] rfl rfl (pair_new wr s.lo s.hi) (by simp [Value.oneCell']) (by unfold maxLen; omega) (by omega) (HBy.out.alloc HBy.out.size (.cells #[.int .i64 s.lo, .int .i64 s.hi] 3)).size ?_
          intro v' w5 hown5 hgr5 _
          have HO5 : Hid (w5.ownsRow w2.heap.size 3 1 v' (2 * (j + 1)) ((endsL (r.take (j + 1))).map (Value.int .i64))) := Lib.hid (by
            rw [HE.out, List.map_append]
            exact hown5)
          have HB5 : Hid (Below w2.heap.size w2 w5) := Lib.hid ((HBy.out.alloc HBy.out.size (.cells #[.int .i64 s.lo, .int .i64 s.hi] 3)).drew.grown hgr5 (HBy.out.alloc HBy.out.size (.cells #[.int .i64 s.lo, .int .i64 s.hi] 3)).size (fun q e => (HO.out.lt q e).1))
          refine hK.out _ _ HB5.out (fun hHeld => ?_)
          clear hK K hown5 hgr5
          try simp only [Act.put, List.setIfInBounds_toArray, List.set_cons_zero, List.set_cons_succ]
          refine' wpAnyH_take (i := 21) (v := _) (by simp only [List.getElem?_toArray, List.getElem?_cons_succ, List.getElem?_cons_zero]; exact rfl) (by kernel_rfl) (by kernel_rfl) (by kernel_rfl) (fun _ _ _ h => h) (Or.inl ⟨by rfl, ?y21x20⟩) hHeld ?r21x20
          case y21x20 => (intro w hSw; (try dsimp only at hSw); go_simp; try with_reducible rfl)
          try simp only [Act.put, List.setIfInBounds_toArray, List.set_cons_zero, List.set_cons_succ]
          refine wpAnyH_done (by kernel_rfl) ?_ _
          refine NoPanic.normal ?_
          go_wp2_with fail
          go_roundw
          case rel => exact ⟨j + 1, by omega, by go_num, HO5.out, HB5.out⟩
          case measure => simp [intOf]; omega
        · obtain rfl : j = r.length := by omega
          rw [List.take_length] at HO
          have HT1 := Lib.hid (owns_up HT.out HBy.out)
          have HB1 := Lib.hid (HB.out.trans (HBy.out.mono HB.out.size))
          have HC := Lib.hid (CArg.of_owns (enc := Value.int .i64) (xs := endsL r) (ends_len r) HO.out)
          have hjl' : ¬ (r.length : Int) < (r.length : Int) := by omega
          clear hj hjl
          go_wp2_with fail
          clear c2 ce
          refine (rNums_any _ (endsL r) _ HC.out (by rw [ends_len]; omega) (ends_I HSI.out)).mono ?_
          rintro e w4 ⟨rfl, hb⟩
          have HT2 := Lib.hid ((owns_up HT1.out hb).alloc (.cells #[.string (rowS r)] 9))
          have HB2 := Lib.hid (HB1.out.trans (hb.mono HB1.out.size))
          have HB3 := Lib.hid (HB2.out.alloc HB2.out.size (.cells #[.string (rowS r)] 9))
          clear hb HC HT1 HB1
          rw [show (⟨(joinL intL (endsL r)).toArray⟩ : ByteArray) = rowS r from rfl]
          go_wp2_with (at_builtin; refine Hid.out ?_)
          refine Lib.hid ?_
          refine wpList_append_own _ rfl _ _ 38 rfl w0.heap.size 9 iS (.string ⟨#[]⟩) 1 16 undSts hiS hzS hsS hbS rfl (by decide) _ k _ rfl HT2.out ⟨w4.heap.size, 0, none⟩ 1 1 [.string (rowS r)] rfl rfl (str_new w4 (rowS r)) (by simp [Value.oneCell']) (by unfold maxLen; omega) (by omega) HB3.out.size ?_
          intro v' w5 hown5 hgr5 _
          have HT5 : Hid (w5.ownsRow w0.heap.size 9 1 v' (k + 1) (((x.rain.take (k + 1)).map rowS).map Value.string)) := Lib.hid (by
            rw [HRT.out]
            exact hown5)
          have HB5 : Hid (Below w0.heap.size w0 w5) := Lib.hid (HB3.out.grown hgr5 HB3.out.size (fun q e => (HT2.out.lt q e).1))
          clear hown5 hgr5
          go_wp2_with fail
          go_roundw
          case rel => exact ⟨k + 1, by omega, by go_num, HT5.out, HB5.out⟩
          case measure => simp [intOf]; omega
    · obtain rfl : k = x.rain.length := by omega
      rw [List.take_length] at HT
      have HCA := Lib.hid (CArg.of_owns (enc := Value.string) (xs := x.rain.map rowS) (List.length_map _) HT.out)
      have hlt' : ¬ (x.rain.length : Int) < (x.rain.length : Int) := by omega
      clear hlt hk
      go_wp2_with fail
      go_ret
      exact ⟨_, rfl, HCA.out, HB0.out.trans (HB.out.mono HB0.out.size)⟩
end Go.Proofs.Ytleiiedacachjaa
