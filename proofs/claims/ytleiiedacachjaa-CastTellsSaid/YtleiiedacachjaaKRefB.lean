/- bourneref29.Bytes: news as bytes, by the reference. -/
import Derived.Test.YtleiiedacachjaaKRows
namespace Go.Proofs.Ytleiiedacachjaa
open Go.RowKit
theorem headB_app (n : NewsV) : ((intL n.known ++ intL n.kind) ++ intL n.cast.id) ++ intL n.cast.src = headB n := by
  unfold headB heads
  simp
set_option maxRecDepth 100000 in
set_option maxHeartbeats 8000000 in
theorem rbytes_any (n : NewsV) (v0 : Value) (w : World) (hr : LArg (RList RSpan 2) 1 v0 n.cast.rain w) (hN : I64n n) (hsp : ∀ r ∈ n.cast.rain, SpanI r) (hl : n.cast.rain.length ≤ 30) (hq : ∀ r ∈ n.cast.rain, r.length ≤ 70) :
    Calls Try.prog 27 #[.agg #[.int .i64 n.kind, .int .i64 n.known, .int .i64 n.cast.id, .int .i64 n.cast.src, v0]] w fun e w' => e = .returned (.string ⟨(newsB n).toArray⟩) ∧ Below w.heap.size w w' := by
  obtain ⟨iI, hiI, hzI, hsI, hbI⟩ := info_parts infoIn
  obtain ⟨a0, q0, rfl, -, -⟩ := hr.slice
  have HR := Lib.hid hr
  have HN := Lib.hid hN
  have HSP := Lib.hid hsp
  have HQ := Lib.hid hq
  clear hr hN hsp hq
  have HHL : Hid ((headB n).length ≤ 36) := Lib.hid (headK_len HN.out 4)
  have HJL : Hid (∀ k, (joinPre rowB (n.cast.rain.take k)).length ≤ 50000) := Lib.hid fun k => by
    have h1 := joinPre_len rowB 1402 (n.cast.rain.take k) (fun r hr => by
      have hm := List.mem_of_mem_take hr
      have := rowB_len (HSP.out r hm) (HQ.out r hm)
      omega)
    have h2 : (n.cast.rain.take k).length ≤ 30 := Nat.le_trans (List.length_take_le' _ _) hl
    have h3 := Nat.mul_le_mul_right 1402 h2
    omega
  go_enter Try.func27, Try.ntmps27
  go_upto_region 1 with fail
  have HC0 := Lib.hid (heap_alloc_new w (.cells #[.int .i64 n.kind, .int .i64 n.known, .int .i64 n.cast.id, .int .i64 n.cast.src, .slice a0 n.cast.rain.length q0] 29))
  have HB0 := Lib.hid ((Below.refl w.heap.size w).alloc (Nat.le_refl _) (.cells #[.int .i64 n.kind, .int .i64 n.known, .int .i64 n.cast.id, .int .i64 n.cast.src, .slice a0 n.cast.rain.length q0] 29))
  generalize w.alloc (.cells #[.int .i64 n.kind, .int .i64 n.known, .int .i64 n.cast.id, .int .i64 n.cast.src, .slice a0 n.cast.rain.length q0] 29) = w0 at *
  have HR0 := Lib.hid (HR.out.below (stays_list stays_Span 2) HB0.out)
  clear HR
  have l1 := (intL_len HN.out.2.1).2
  have l2 := (intL_len HN.out.1).2
  have l3 := (intL_len HN.out.2.2.1).2
  have l4 := (intL_len HN.out.2.2.2).2
  have z1 : ¬ 9223372036854775807 < (intL n.known).length + (intL n.kind).length := by omega
  have z2 : ¬ 9223372036854775807 < (intL n.known).length + (intL n.kind).length + (intL n.cast.id).length := by omega
  have z3 : ¬ 9223372036854775807 < (intL n.known).length + (intL n.kind).length + (intL n.cast.id).length + (intL n.cast.src).length := by omega
  clear l1 l2 l3 l4
  refine wp_region_noPanic ?_
  refine wp_region_held_drew (S := fun w' => Below w0.heap.size w0 w') (by kernel_rfl) (Below.refl _ _).drew (fun hHeld => ?_)
  refine' wpAnyH_take (i := 0) (v := _) (by simp only [List.getElem?_toArray, List.getElem?_cons_zero]; exact rfl) (by kernel_rfl) (by kernel_rfl) (by kernel_rfl) (fun _ _ _ h => h) (Or.inl ⟨by rfl, ?y0x1⟩) hHeld ?r0x1
  case y0x1 => (intro w hSw; (try dsimp only at hSw); go_simp; try with_reducible rfl)
  try simp only [Act.put, List.setIfInBounds_toArray, List.set_cons_zero, List.set_cons_succ]
  refine' wpAnyH_take (i := 1) (v := _) (by simp only [List.getElem?_toArray, List.getElem?_cons_succ, List.getElem?_cons_zero]; exact rfl) (by kernel_rfl) (by kernel_rfl) (by kernel_rfl) (fun _ _ _ h => h) (Or.inl ⟨by rfl, ?y1x2⟩) hHeld ?r1x2
  case y1x2 => (intro wz hSw; have e2 := (hSw.cell (blk_lt HC0.out)).trans (rowN HC0.out 1 (.int .i64 n.known) rfl); go_simp; try with_reducible rfl)
  try simp only [Act.put, List.setIfInBounds_toArray, List.set_cons_zero, List.set_cons_succ]
  refine' wpAnyH_take (i := 3) (v := _) (by simp only [List.getElem?_toArray, List.getElem?_cons_succ, List.getElem?_cons_zero]; exact rfl) (by kernel_rfl) (by kernel_rfl) (by kernel_rfl) (fun _ _ _ h => h) (Or.inl ⟨by rfl, ?y3x3⟩) hHeld ?r3x3
  case y3x3 => (intro w hSw; (try dsimp only at hSw); go_simp; try with_reducible rfl)
  try simp only [Act.put, List.setIfInBounds_toArray, List.set_cons_zero, List.set_cons_succ]
  refine' wpAnyH_take (i := 4) (v := _) (by simp only [List.getElem?_toArray, List.getElem?_cons_succ, List.getElem?_cons_zero]; exact rfl) (by kernel_rfl) (by kernel_rfl) (by kernel_rfl) (fun _ _ _ h => h) (Or.inl ⟨by rfl, ?y4x4⟩) hHeld ?r4x4
  case y4x4 => (intro wz hSw; have e2 := (hSw.cell (blk_lt HC0.out)).trans (rowN HC0.out 0 (.int .i64 n.kind) rfl); go_simp; try with_reducible rfl)
  try simp only [Act.put, List.setIfInBounds_toArray, List.set_cons_zero, List.set_cons_succ]
  refine' wpAnyH_take (i := 7) (v := _) (by simp only [List.getElem?_toArray, List.getElem?_cons_succ, List.getElem?_cons_zero]; exact rfl) (by kernel_rfl) (by kernel_rfl) (by kernel_rfl) (fun _ _ _ h => h) (Or.inl ⟨by rfl, ?y7x5⟩) hHeld ?r7x5
  case y7x5 => (intro w hSw; (try dsimp only at hSw); go_simp; try with_reducible rfl)
  try simp only [Act.put, List.setIfInBounds_toArray, List.set_cons_zero, List.set_cons_succ]
  refine' wpAnyH_take (i := 8) (v := _) (by simp only [List.getElem?_toArray, List.getElem?_cons_succ, List.getElem?_cons_zero]; exact rfl) (by kernel_rfl) (by kernel_rfl) (by kernel_rfl) (fun _ _ _ h => h) (Or.inl ⟨by rfl, ?y8x6⟩) hHeld ?r8x6
  case y8x6 => (intro w hSw; (try dsimp only at hSw); go_simp; try with_reducible rfl)
  try simp only [Act.put, List.setIfInBounds_toArray, List.set_cons_zero, List.set_cons_succ]
  refine' wpAnyH_take (i := 9) (v := _) (by simp only [List.getElem?_toArray, List.getElem?_cons_succ, List.getElem?_cons_zero]; exact rfl) (by kernel_rfl) (by kernel_rfl) (by kernel_rfl) (fun _ _ _ h => h) (Or.inl ⟨by rfl, ?y9x7⟩) hHeld ?r9x7
  case y9x7 => (intro wz hSw; have e2 := (hSw.cell (blk_lt HC0.out)).trans (rowN HC0.out 2 (.int .i64 n.cast.id) rfl); go_simp; try with_reducible rfl)
  try simp only [Act.put, List.setIfInBounds_toArray, List.set_cons_zero, List.set_cons_succ]
  refine' wpAnyH_take (i := 12) (v := _) (by simp only [List.getElem?_toArray, List.getElem?_cons_succ, List.getElem?_cons_zero]; exact rfl) (by kernel_rfl) (by kernel_rfl) (by kernel_rfl) (fun _ _ _ h => h) (Or.inl ⟨by rfl, ?y12x8⟩) hHeld ?r12x8
  case y12x8 => (intro w hSw; (try dsimp only at hSw); go_simp; try with_reducible rfl)
  try simp only [Act.put, List.setIfInBounds_toArray, List.set_cons_zero, List.set_cons_succ]
  refine' wpAnyH_take (i := 13) (v := _) (by simp only [List.getElem?_toArray, List.getElem?_cons_succ, List.getElem?_cons_zero]; exact rfl) (by kernel_rfl) (by kernel_rfl) (by kernel_rfl) (fun _ _ _ h => h) (Or.inl ⟨by rfl, ?y13x9⟩) hHeld ?r13x9
  case y13x9 => (intro w hSw; (try dsimp only at hSw); go_simp; try with_reducible rfl)
  try simp only [Act.put, List.setIfInBounds_toArray, List.set_cons_zero, List.set_cons_succ]
  refine' wpAnyH_take (i := 14) (v := _) (by simp only [List.getElem?_toArray, List.getElem?_cons_succ, List.getElem?_cons_zero]; exact rfl) (by kernel_rfl) (by kernel_rfl) (by kernel_rfl) (fun _ _ _ h => h) (Or.inl ⟨by rfl, ?y14x10⟩) hHeld ?r14x10
  case y14x10 => (intro wz hSw; have e2 := (hSw.cell (blk_lt HC0.out)).trans (rowN HC0.out 3 (.int .i64 n.cast.src) rfl); go_simp; try with_reducible rfl)
  try simp only [Act.put, List.setIfInBounds_toArray, List.set_cons_zero, List.set_cons_succ]
  refine wpAnyH_ready (rs := [2]) (by kernel_rfl) (by simp) ?_
  refine AllReadyH.cons (by simp only [List.getElem?_toArray, List.getElem?_cons_succ, List.getElem?_cons_zero]; exact rfl) (fun K hK => ?_) AllReadyH.nil
  go_simp
  refine (rint_any n.known _ HN.out.2.1).mono ?_
  rintro e w' ⟨rfl, hb⟩
  refine hK.out _ _ (hHeld.trans (hb.mono hHeld.size)) (fun hHeld => ?_)
  clear hK K hb
  try simp only [Act.put, List.setIfInBounds_toArray, List.set_cons_zero, List.set_cons_succ]
  refine wpAnyH_ready (rs := [5]) (by kernel_rfl) (by simp) ?_
  refine AllReadyH.cons (by simp only [List.getElem?_toArray, List.getElem?_cons_succ, List.getElem?_cons_zero]; exact rfl) (fun K hK => ?_) AllReadyH.nil
  go_simp
  refine (rint_any n.kind _ HN.out.1).mono ?_
  rintro e w' ⟨rfl, hb⟩
  refine hK.out _ _ (hHeld.trans (hb.mono hHeld.size)) (fun hHeld => ?_)
  clear hK K hb
  try simp only [Act.put, List.setIfInBounds_toArray, List.set_cons_zero, List.set_cons_succ]
  refine' wpAnyH_take (i := 6) (v := _) (by simp only [List.getElem?_toArray, List.getElem?_cons_succ, List.getElem?_cons_zero]; exact rfl) (by kernel_rfl) (by kernel_rfl) (by kernel_rfl) (fun _ _ _ h => h) (Or.inl ⟨by rfl, ?y6x11⟩) hHeld ?r6x11
  case y6x11 => (intro w hSw; (try dsimp only at hSw); go_simp; try with_reducible rfl)
  try simp only [Act.put, List.setIfInBounds_toArray, List.set_cons_zero, List.set_cons_succ]
  refine wpAnyH_ready (rs := [10]) (by kernel_rfl) (by simp) ?_
  refine AllReadyH.cons (by simp only [List.getElem?_toArray, List.getElem?_cons_succ, List.getElem?_cons_zero]; exact rfl) (fun K hK => ?_) AllReadyH.nil
  go_simp
  refine (rint_any n.cast.id _ HN.out.2.2.1).mono ?_
  rintro e w' ⟨rfl, hb⟩
  refine hK.out _ _ (hHeld.trans (hb.mono hHeld.size)) (fun hHeld => ?_)
  clear hK K hb
  try simp only [Act.put, List.setIfInBounds_toArray, List.set_cons_zero, List.set_cons_succ]
  refine' wpAnyH_take (i := 11) (v := _) (by simp only [List.getElem?_toArray, List.getElem?_cons_succ, List.getElem?_cons_zero]; exact rfl) (by kernel_rfl) (by kernel_rfl) (by kernel_rfl) (fun _ _ _ h => h) (Or.inl ⟨by rfl, ?y11x12⟩) hHeld ?r11x12
  case y11x12 => (intro w hSw; (try dsimp only at hSw); go_simp; try with_reducible rfl)
  try simp only [Act.put, List.setIfInBounds_toArray, List.set_cons_zero, List.set_cons_succ]
  refine wpAnyH_ready (rs := [15]) (by kernel_rfl) (by simp) ?_
  refine AllReadyH.cons (by simp only [List.getElem?_toArray, List.getElem?_cons_succ, List.getElem?_cons_zero]; exact rfl) (fun K hK => ?_) AllReadyH.nil
  go_simp
  refine (rint_any n.cast.src _ HN.out.2.2.2).mono ?_
  rintro e w' ⟨rfl, hb⟩
  refine hK.out _ _ (hHeld.trans (hb.mono hHeld.size)) (fun hHeld => ?_)
  clear hK K hb
  try simp only [Act.put, List.setIfInBounds_toArray, List.set_cons_zero, List.set_cons_succ]
  refine' wpAnyH_take (i := 16) (v := _) (by simp only [List.getElem?_toArray, List.getElem?_cons_succ, List.getElem?_cons_zero]; exact rfl) (by kernel_rfl) (by kernel_rfl) (by kernel_rfl) (fun _ _ _ h => h) (Or.inl ⟨by rfl, ?y16x13⟩) hHeld ?r16x13
  case y16x13 => (intro w hSw; (try dsimp only at hSw); go_simp; try with_reducible rfl)
  try simp only [Act.put, List.setIfInBounds_toArray, List.set_cons_zero, List.set_cons_succ]
  refine' wpAnyH_take (i := 17) (v := _) (by simp only [List.getElem?_toArray, List.getElem?_cons_succ, List.getElem?_cons_zero]; exact rfl) (by kernel_rfl) (by kernel_rfl) (by kernel_rfl) (fun _ _ _ h => h) (Or.inl ⟨by rfl, ?y17x14⟩) hHeld ?r17x14
  case y17x14 => (intro w hSw; (try dsimp only at hSw); go_simp; try with_reducible rfl)
  try simp only [Act.put, List.setIfInBounds_toArray, List.set_cons_zero, List.set_cons_succ]
  refine wpAnyH_done (by kernel_rfl) ?_ _
  refine NoPanic.normal ?_
  have hbw := hHeld
  generalize hst : ((((⟨(intL n.known).toArray⟩ : ByteArray) ++ ⟨(intL n.kind).toArray⟩) ++ ⟨(intL n.cast.id).toArray⟩) ++ ⟨(intL n.cast.src).toArray⟩) = hs0 at *
  have hse : hs0 = ⟨(headB n).toArray⟩ := by rw [← hst, bytes_append, bytes_append, bytes_append, headB_app]
  subst hse
  have HBq := Lib.hid hbw
  clear hst hbw z1 z2 z3
  go_wp2_with fail
  go_loopw [3, 4] (fun tv iv wr => ∃ k : Nat, k ≤ n.cast.rain.length ∧ iv = .int .i64 k ∧ tv = .string ⟨(headB n ++ joinPre rowB (n.cast.rain.take k)).toArray⟩ ∧ Below w0.heap.size w0 wr) (fun _ iv _ => n.cast.rain.length - (intOf iv).toNat)
  case atStart => exact ⟨0, Nat.zero_le _, rfl, by simp [joinPre], HBq.out⟩
  case round =>
    rename World => w2
    obtain ⟨k, hk, rfl, rfl, hB⟩ := hrel
    have HB := Lib.hid hB
    clear hB
    have HC2 := Lib.hid (blk_below HC0.out HB.out (blk_lt HC0.out))
    have c4 := rowN HC2.out 4 (.slice a0 n.cast.rain.length q0) rfl
    by_cases hlt : k < n.cast.rain.length
    · obtain ⟨r, hrr⟩ : ∃ r, n.cast.rain[k]? = some r := ⟨_, List.getElem?_eq_getElem hlt⟩
      obtain ⟨g, o, cs, ha, hbl, -, hrg, v, rfl, hrow⟩ := (HR0.out.below (stays_list stays_Span 2) HB.out).at hrr
      subst ha
      obtain ⟨a1, q1, rfl, -, -⟩ := hrow.slice
      have ce := hrg 0 _ rfl
      simp only [Nat.mul_one, Nat.add_zero] at ce
      have hm := List.mem_of_getElem? hrr
      have hq1 := HQ.out r hm
      have HSI := Lib.hid (HSP.out r hm)
      have HROW := Lib.hid hrow
      have HS := Lib.hid (joinPre_snoc rowB n.cast.rain k r hrr)
      have HGL := Lib.hid hbl
      have HCE := Lib.hid ce
      have hlt' : (k : Int) < (n.cast.rain.length : Int) := by omega
      clear hrg hrow hrr hm ce hbl
      go_wp2_with fail
      clear c4 hlt'
      go_loopw [5, 6] (fun v iv wy => ∃ j : Nat, j ≤ r.length ∧ iv = .int .i64 j ∧ wy.ownsRow w2.heap.size 3 1 v (2 * j) ((endsL (r.take j)).map (Value.int .i64)) ∧ Below w2.heap.size w2 wy) (fun _ iv _ => r.length - (intOf iv).toNat)
      case atStart => exact ⟨0, Nat.zero_le _, rfl, World.ownsRow_nil _ _ _ _, Below.refl _ _⟩
      case round =>
        obtain ⟨j, hj, rfl, hown, hBy⟩ := hrel
        have HO := Lib.hid hown
        have HBy := Lib.hid hBy
        clear hown hBy
        have c2 := (HBy.out.cell (blk_lt HC2.out)).trans (rowN HC2.out 4 (.slice (some ⟨g, o, none⟩) n.cast.rain.length q0) rfl)
        have ce := (HBy.out.cell HGL.out).trans HCE.out
        have hlt' : (k : Int) < (n.cast.rain.length : Int) := by omega
        by_cases hjl : j < r.length
        · obtain ⟨s, hs⟩ : ∃ s, r[j]? = some s := ⟨_, List.getElem?_eq_getElem hjl⟩
          obtain ⟨g1, o1, cs1, ha1, hbl1, -, hrg1, rfl, -, -⟩ := HROW.out.at hs
          subst ha1
          have HE := Lib.hid (ends_take hs)
          have HG1 := Lib.hid hbl1
          have HLO : Hid (w2.cell? ⟨g1, o1 + j * 2, none⟩ = some (.int .i64 s.lo)) := Lib.hid (hrg1 0 _ rfl)
          have HHI : Hid (w2.cell? ⟨g1, o1 + j * 2 + 1, none⟩ = some (.int .i64 s.hi)) := Lib.hid (hrg1 1 _ rfl)
          have hjl' : (j : Int) < (r.length : Int) := by omega
          clear hrg1 hs hbl1
          go_upto_region 9 with fail
          clear c2 ce
          refine wp_region_noPanic ?_
          refine wp_region_held_drew (S := fun w' => Below w2.heap.size w2 w') (by kernel_rfl) HBy.out.drew (fun hHeld => ?_)
          refine' wpAnyH_take (i := 0) (v := _) (by simp only [List.getElem?_toArray, List.getElem?_cons_zero]; exact rfl) (by kernel_rfl) (by kernel_rfl) (by kernel_rfl) (fun _ _ _ h => h) (Or.inl ⟨by rfl, ?y0x15⟩) hHeld ?r0x15
          case y0x15 => (intro w hSw; (try dsimp only at hSw); go_simp; try with_reducible rfl)
          try simp only [Act.put, List.setIfInBounds_toArray, List.set_cons_zero, List.set_cons_succ]
          refine' wpAnyH_take (i := 1) (v := _) (by simp only [List.getElem?_toArray, List.getElem?_cons_succ, List.getElem?_cons_zero]; exact rfl) (by kernel_rfl) (by kernel_rfl) (by kernel_rfl) (fun _ _ _ h => h) (Or.inl ⟨by rfl, ?y1x16⟩) hHeld ?r1x16
          case y1x16 => (intro w hSw; (try dsimp only at hSw); go_simp; try with_reducible rfl)
          try simp only [Act.put, List.setIfInBounds_toArray, List.set_cons_zero, List.set_cons_succ]
          refine' wpAnyH_take (i := 2) (v := _) (by simp only [List.getElem?_toArray, List.getElem?_cons_succ, List.getElem?_cons_zero]; exact rfl) (by kernel_rfl) (by kernel_rfl) (by kernel_rfl) (fun _ _ _ h => h) (Or.inl ⟨by rfl, ?y2x17⟩) hHeld ?r2x17
          case y2x17 => (intro w hSw; (try dsimp only at hSw); go_simp; try with_reducible rfl)
          try simp only [Act.put, List.setIfInBounds_toArray, List.set_cons_zero, List.set_cons_succ]
          refine' wpAnyH_take (i := 3) (v := _) (by simp only [List.getElem?_toArray, List.getElem?_cons_succ, List.getElem?_cons_zero]; exact rfl) (by kernel_rfl) (by kernel_rfl) (by kernel_rfl) (fun _ _ _ h => h) (Or.inl ⟨by rfl, ?y3x18⟩) hHeld ?r3x18
          case y3x18 => (intro wz hSw; have e2 := (hSw.cell (blk_lt HC2.out)).trans (rowN HC2.out 4 _ rfl); go_simp; try with_reducible rfl)
          try simp only [Act.put, List.setIfInBounds_toArray, List.set_cons_zero, List.set_cons_succ]
          refine' wpAnyH_take (i := 4) (v := _) (by simp only [List.getElem?_toArray, List.getElem?_cons_succ, List.getElem?_cons_zero]; exact rfl) (by kernel_rfl) (by kernel_rfl) (by kernel_rfl) (fun _ _ _ h => h) (Or.inl ⟨by rfl, ?y4x19⟩) hHeld ?r4x19
          case y4x19 => (intro w hSw; (try dsimp only at hSw); go_simp; try with_reducible rfl)
          try simp only [Act.put, List.setIfInBounds_toArray, List.set_cons_zero, List.set_cons_succ]
          refine' wpAnyH_take (i := 5) (v := _) (by simp only [List.getElem?_toArray, List.getElem?_cons_succ, List.getElem?_cons_zero]; exact rfl) (by kernel_rfl) (by kernel_rfl) (by kernel_rfl) (fun _ _ _ h => h) (Or.inl ⟨by rfl, ?y5x20⟩) hHeld ?r5x20
          case y5x20 => (intro w hSw; (try dsimp only at hSw); go_simp; try with_reducible rfl)
          try simp only [Act.put, List.setIfInBounds_toArray, List.set_cons_zero, List.set_cons_succ]
          refine' wpAnyH_take (i := 6) (v := _) (by simp only [List.getElem?_toArray, List.getElem?_cons_succ, List.getElem?_cons_zero]; exact rfl) (by kernel_rfl) (by kernel_rfl) (by kernel_rfl) (fun _ _ _ h => h) (Or.inl ⟨by rfl, ?y6x21⟩) hHeld ?r6x21
          case y6x21 => (intro wz hSw; have e3 := (hSw.cell HGL.out).trans HCE.out; go_simp; try with_reducible rfl)
          try simp only [Act.put, List.setIfInBounds_toArray, List.set_cons_zero, List.set_cons_succ]
          refine' wpAnyH_take (i := 7) (v := _) (by simp only [List.getElem?_toArray, List.getElem?_cons_succ, List.getElem?_cons_zero]; exact rfl) (by kernel_rfl) (by kernel_rfl) (by kernel_rfl) (fun _ _ _ h => h) (Or.inl ⟨by rfl, ?y7x22⟩) hHeld ?r7x22
          case y7x22 => (intro w hSw; (try dsimp only at hSw); go_simp; try with_reducible rfl)
          try simp only [Act.put, List.setIfInBounds_toArray, List.set_cons_zero, List.set_cons_succ]
          refine' wpAnyH_take (i := 8) (v := _) (by simp only [List.getElem?_toArray, List.getElem?_cons_succ, List.getElem?_cons_zero]; exact rfl) (by kernel_rfl) (by kernel_rfl) (by kernel_rfl) (fun _ _ _ h => h) (Or.inl ⟨by rfl, ?y8x23⟩) hHeld ?r8x23
          case y8x23 => (intro w hSw; (try dsimp only at hSw); go_simp; try with_reducible rfl)
          try simp only [Act.put, List.setIfInBounds_toArray, List.set_cons_zero, List.set_cons_succ]
          refine' wpAnyH_take (i := 9) (v := _) (by simp only [List.getElem?_toArray, List.getElem?_cons_succ, List.getElem?_cons_zero]; exact rfl) (by kernel_rfl) (by kernel_rfl) (by kernel_rfl) (fun _ _ _ h => h) (Or.inl ⟨by rfl, ?y9x24⟩) hHeld ?r9x24
          case y9x24 => (intro w hSw; (try dsimp only at hSw); go_simp; try with_reducible rfl)
          try simp only [Act.put, List.setIfInBounds_toArray, List.set_cons_zero, List.set_cons_succ]
          refine' wpAnyH_take (i := 10) (v := _) (by simp only [List.getElem?_toArray, List.getElem?_cons_succ, List.getElem?_cons_zero]; exact rfl) (by kernel_rfl) (by kernel_rfl) (by kernel_rfl) (fun _ _ _ h => h) (Or.inl ⟨by rfl, ?y10x25⟩) hHeld ?r10x25
          case y10x25 => (intro wz hSw; have e4 := (hSw.cell HG1.out).trans HLO.out; go_simp; try with_reducible rfl)
          try simp only [Act.put, List.setIfInBounds_toArray, List.set_cons_zero, List.set_cons_succ]
          refine' wpAnyH_take (i := 11) (v := _) (by simp only [List.getElem?_toArray, List.getElem?_cons_succ, List.getElem?_cons_zero]; exact rfl) (by kernel_rfl) (by kernel_rfl) (by kernel_rfl) (fun _ _ _ h => h) (Or.inl ⟨by rfl, ?y11x26⟩) hHeld ?r11x26
          case y11x26 => (intro w hSw; (try dsimp only at hSw); go_simp; try with_reducible rfl)
          try simp only [Act.put, List.setIfInBounds_toArray, List.set_cons_zero, List.set_cons_succ]
          refine' wpAnyH_take (i := 12) (v := _) (by simp only [List.getElem?_toArray, List.getElem?_cons_succ, List.getElem?_cons_zero]; exact rfl) (by kernel_rfl) (by kernel_rfl) (by kernel_rfl) (fun _ _ _ h => h) (Or.inl ⟨by rfl, ?y12x27⟩) hHeld ?r12x27
          case y12x27 => (intro w hSw; (try dsimp only at hSw); go_simp; try with_reducible rfl)
          try simp only [Act.put, List.setIfInBounds_toArray, List.set_cons_zero, List.set_cons_succ]
          refine' wpAnyH_take (i := 13) (v := _) (by simp only [List.getElem?_toArray, List.getElem?_cons_succ, List.getElem?_cons_zero]; exact rfl) (by kernel_rfl) (by kernel_rfl) (by kernel_rfl) (fun _ _ _ h => h) (Or.inl ⟨by rfl, ?y13x28⟩) hHeld ?r13x28
          case y13x28 => (intro wz hSw; have e2 := (hSw.cell (blk_lt HC2.out)).trans (rowN HC2.out 4 _ rfl); go_simp; try with_reducible rfl)
          try simp only [Act.put, List.setIfInBounds_toArray, List.set_cons_zero, List.set_cons_succ]
          refine' wpAnyH_take (i := 14) (v := _) (by simp only [List.getElem?_toArray, List.getElem?_cons_succ, List.getElem?_cons_zero]; exact rfl) (by kernel_rfl) (by kernel_rfl) (by kernel_rfl) (fun _ _ _ h => h) (Or.inl ⟨by rfl, ?y14x29⟩) hHeld ?r14x29
          case y14x29 => (intro w hSw; (try dsimp only at hSw); go_simp; try with_reducible rfl)
          try simp only [Act.put, List.setIfInBounds_toArray, List.set_cons_zero, List.set_cons_succ]
          refine' wpAnyH_take (i := 15) (v := _) (by simp only [List.getElem?_toArray, List.getElem?_cons_succ, List.getElem?_cons_zero]; exact rfl) (by kernel_rfl) (by kernel_rfl) (by kernel_rfl) (fun _ _ _ h => h) (Or.inl ⟨by rfl, ?y15x30⟩) hHeld ?r15x30
          case y15x30 => (intro w hSw; (try dsimp only at hSw); go_simp; try with_reducible rfl)
          try simp only [Act.put, List.setIfInBounds_toArray, List.set_cons_zero, List.set_cons_succ]
          refine' wpAnyH_take (i := 16) (v := _) (by simp only [List.getElem?_toArray, List.getElem?_cons_succ, List.getElem?_cons_zero]; exact rfl) (by kernel_rfl) (by kernel_rfl) (by kernel_rfl) (fun _ _ _ h => h) (Or.inl ⟨by rfl, ?y16x31⟩) hHeld ?r16x31
          case y16x31 => (intro wz hSw; have e3 := (hSw.cell HGL.out).trans HCE.out; go_simp; try with_reducible rfl)
          try simp only [Act.put, List.setIfInBounds_toArray, List.set_cons_zero, List.set_cons_succ]
          refine' wpAnyH_take (i := 17) (v := _) (by simp only [List.getElem?_toArray, List.getElem?_cons_succ, List.getElem?_cons_zero]; exact rfl) (by kernel_rfl) (by kernel_rfl) (by kernel_rfl) (fun _ _ _ h => h) (Or.inl ⟨by rfl, ?y17x32⟩) hHeld ?r17x32
          case y17x32 => (intro w hSw; (try dsimp only at hSw); go_simp; try with_reducible rfl)
          try simp only [Act.put, List.setIfInBounds_toArray, List.set_cons_zero, List.set_cons_succ]
          refine' wpAnyH_take (i := 18) (v := _) (by simp only [List.getElem?_toArray, List.getElem?_cons_succ, List.getElem?_cons_zero]; exact rfl) (by kernel_rfl) (by kernel_rfl) (by kernel_rfl) (fun _ _ _ h => h) (Or.inl ⟨by rfl, ?y18x33⟩) hHeld ?r18x33
          case y18x33 => (intro w hSw; (try dsimp only at hSw); go_simp; try with_reducible rfl)
          try simp only [Act.put, List.setIfInBounds_toArray, List.set_cons_zero, List.set_cons_succ]
          refine' wpAnyH_take (i := 19) (v := _) (by simp only [List.getElem?_toArray, List.getElem?_cons_succ, List.getElem?_cons_zero]; exact rfl) (by kernel_rfl) (by kernel_rfl) (by kernel_rfl) (fun _ _ _ h => h) (Or.inl ⟨by rfl, ?y19x34⟩) hHeld ?r19x34
          case y19x34 => (intro w hSw; (try dsimp only at hSw); go_simp; try with_reducible rfl)
          try simp only [Act.put, List.setIfInBounds_toArray, List.set_cons_zero, List.set_cons_succ]
          refine' wpAnyH_take (i := 20) (v := _) (by simp only [List.getElem?_toArray, List.getElem?_cons_succ, List.getElem?_cons_zero]; exact rfl) (by kernel_rfl) (by kernel_rfl) (by kernel_rfl) (fun _ _ _ h => h) (Or.inl ⟨by rfl, ?y20x35⟩) hHeld ?r20x35
          case y20x35 => (intro wz hSw; have e4 := (hSw.cell HG1.out).trans HHI.out; go_simp; try with_reducible rfl)
          try simp only [Act.put, List.setIfInBounds_toArray, List.set_cons_zero, List.set_cons_succ]
          refine wpAnyH_ready (rs := [21]) (by kernel_rfl) (by simp) ?_
          refine AllReadyH.cons (by simp only [List.getElem?_toArray, List.getElem?_cons_succ, List.getElem?_cons_zero]; exact rfl) (fun K hK => ?_) AllReadyH.nil
          go_simp
          refine hK.out _ _ (HBy.out.alloc HBy.out.size (.cells #[.int .i64 s.lo, .int .i64 s.hi] 3)).drew (fun hHeld => ?_)
          clear hK K
          try simp only [Act.put, List.setIfInBounds_toArray, List.set_cons_zero, List.set_cons_succ]
          refine wpAnyH_ready (rs := [22]) (by kernel_rfl) (by simp) ?_
          refine AllReadyH.cons (by simp only [List.getElem?_toArray, List.getElem?_cons_succ, List.getElem?_cons_zero]; exact rfl) (fun K hK => ?_) AllReadyH.nil
          refine step_append_own rfl _ _ 36 rfl w2.heap.size 3 iI (.int .i64 0) 1 8 undIs hiI hzI hsI hbI rfl (by decide) _ (2 * j) _ rfl (HO.out.alloc (.cells #[.int .i64 s.lo, .int .i64 s.hi] 3)).drew ⟨wr.heap.size, 0, none⟩ 2 2 [.int .i64 s.lo, .int .i64 s.hi] rfl rfl (pair_new wr s.lo s.hi) (by simp [Value.oneCell']) (by unfold maxLen; omega) (by omega) (HBy.out.alloc HBy.out.size (.cells #[.int .i64 s.lo, .int .i64 s.hi] 3)).size ?_
          intro v' w5 hown5 hgr5 _
          have HO5 : Hid (w5.ownsRow w2.heap.size 3 1 v' (2 * (j + 1)) ((endsL (r.take (j + 1))).map (Value.int .i64))) := Lib.hid (by
            rw [HE.out, List.map_append]
            exact hown5)
          have HB5 : Hid (Below w2.heap.size w2 w5) := Lib.hid ((HBy.out.alloc HBy.out.size (.cells #[.int .i64 s.lo, .int .i64 s.hi] 3)).drew.grown hgr5 (HBy.out.alloc HBy.out.size (.cells #[.int .i64 s.lo, .int .i64 s.hi] 3)).size (fun q e => (HO.out.lt q e).1))
          refine hK.out _ _ HB5.out (fun hHeld => ?_)
          clear hK K hown5 hgr5
          try simp only [Act.put, List.setIfInBounds_toArray, List.set_cons_zero, List.set_cons_succ]
          refine' wpAnyH_take (i := 23) (v := _) (by simp only [List.getElem?_toArray, List.getElem?_cons_succ, List.getElem?_cons_zero]; exact rfl) (by kernel_rfl) (by kernel_rfl) (by kernel_rfl) (fun _ _ _ h => h) (Or.inl ⟨by rfl, ?y23x36⟩) hHeld ?r23x36
          case y23x36 => (intro w hSw; (try dsimp only at hSw); go_simp; try with_reducible rfl)
          try simp only [Act.put, List.setIfInBounds_toArray, List.set_cons_zero, List.set_cons_succ]
          refine wpAnyH_done (by kernel_rfl) ?_ _
          refine NoPanic.normal ?_
          go_wp2_with fail
          go_roundw
          case rel => exact ⟨j + 1, by omega, by go_num, HO5.out, HB5.out⟩
          case measure => simp [intOf]; omega
        · obtain rfl : j = r.length := by omega
          rw [List.take_length] at HO
          have HB1 := Lib.hid (HB.out.trans (HBy.out.mono HB.out.size))
          have HC := Lib.hid (CArg.of_owns (enc := Value.int .i64) (xs := endsL r) (ends_len r) HO.out)
          have hjl' : ¬ (r.length : Int) < (r.length : Int) := by omega
          have hl1 := HHL.out
          have hl2 := HJL.out k
          have hl3 := rowB_len HSI.out hq1
          have z1 : ¬ 9223372036854775807 < (headB n ++ joinPre rowB (n.cast.rain.take k)).length + 1 := by rw [List.length_append]; omega
          have z2 : ¬ 9223372036854775807 < (headB n ++ joinPre rowB (n.cast.rain.take k)).length + 1 + (rowB r).length := by rw [List.length_append]; omega
          rw [List.length_append] at z1 z2
          have HA : Hid (((⟨(headB n ++ joinPre rowB (n.cast.rain.take k)).toArray⟩ : ByteArray) ++ ⟨#[1]⟩) ++ ⟨(rowB r).toArray⟩ = ⟨(headB n ++ joinPre rowB (n.cast.rain.take (k + 1))).toArray⟩) := Lib.hid (by
            rw [show (⟨#[1]⟩ : ByteArray) = ⟨[(1 : UInt8)].toArray⟩ from rfl, bytes_append, bytes_append, HS.out]
            simp)
          clear hj hjl
          go_wp2_with fail
          clear c2 ce
          refine (rNums_any _ (endsL r) _ HC.out (by rw [ends_len]; omega) (ends_I HSI.out)).mono ?_
          rintro e w4 ⟨rfl, hb⟩
          have HB2 := Lib.hid (HB1.out.trans (hb.mono HB1.out.size))
          clear hb HC HB1
          rw [show joinL intL (endsL r) = rowB r from rfl]
          go_wp2_with fail
          go_roundw
          case rel => exact ⟨k + 1, by omega, by go_num, by rw [← HA.out], HB2.out⟩
          case measure => simp [intOf]; omega
    · obtain rfl : k = n.cast.rain.length := by omega
      have hl1 := HHL.out
      have hl2 := HJL.out n.cast.rain.length
      rw [List.take_length] at hl2 ⊢
      have z1 : ¬ 9223372036854775807 < (headB n).length + (joinPre rowB n.cast.rain).length + 1 := by omega
      have HA : Hid ((⟨(headB n ++ joinPre rowB n.cast.rain).toArray⟩ : ByteArray) ++ ⟨#[0]⟩ = ⟨(newsB n).toArray⟩) := Lib.hid (by
        rw [show (⟨#[0]⟩ : ByteArray) = ⟨[(0 : UInt8)].toArray⟩ from rfl, bytes_append]
        unfold newsB
        rw [joinL_pre, List.append_assoc])
      have hlt' : ¬ (n.cast.rain.length : Int) < (n.cast.rain.length : Int) := by omega
      clear hlt hk
      go_wp2_with fail
      go_ret
      exact ⟨congrArg (fun x => Ending.returned (Value.string x)) HA.out, HB0.out.trans (HB.out.mono HB0.out.size)⟩
end Go.Proofs.Ytleiiedacachjaa
