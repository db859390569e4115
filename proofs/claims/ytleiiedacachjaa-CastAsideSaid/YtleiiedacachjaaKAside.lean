/- bournelaw29.CastAside returns true. -/
import Derived.Test.YtleiiedacachjaaKRep
import Derived.Test.YtleiiedacachjaaKAsideL
import Derived.Deep.DeepCutAuto
namespace Go.Proofs.Ytleiiedacachjaa
open Go.RowKit
theorem infoN56 : ∃ i z, Try.prog.info? 29 = some i ∧ i.size = 5 ∧ i.zero = some z ∧ z.cells.size = 5 ∧ i.bytes = 56 := by
  have h : (Try.prog.info? 29).map (fun i => (i.size, i.zero.map (fun z => z.cells.size), i.bytes)) = some (5, some 5, 56) := by kernel_rfl
  cases hi : Try.prog.info? 29 with
  | none => rw [hi] at h; cases h
  | some i =>
    rw [hi] at h
    simp only [Option.map_some, Option.some.injEq, Prod.mk.injEq] at h
    obtain ⟨h1, h2, h3⟩ := h
    cases hz : i.zero with
    | none => rw [hz] at h2; cases h2
    | some z =>
      rw [hz] at h2
      simp only [Option.map_some, Option.some.injEq] at h2
      exact ⟨i, z, rfl, h1, hz, h2, h3⟩
set_option maxRecDepth 100000 in
set_option maxHeartbeats 8000000 in
theorem aside_core (x : NewsV) (u0 : Option Addr) (q0 : Nat) (E : List Ent) (a : Option Addr) (c : Nat) (h : Int) (w : World) (hS : NewsS (E.map (·.1)) (E.map (·.2)) a w)
    (hat : ∀ (i : Nat) (q : Ent), E[i]? = some q → ∃ b o, a = some ⟨b, o, none⟩ ∧ b < w.heap.size ∧ w.rangeAt b (o + i * 5) (cellsE q))
    (hr : ∀ q ∈ E, LArg (RList RSpan 2) 1 q.2 q.1.cast.rain w) (hu : LArg (RList RSpan 2) 1 (.slice u0 x.cast.rain.length q0) x.cast.rain w) (hI : ∀ y ∈ (E.map (·.1)), NewsI y) (hx : NewsI x) (hc : E.length ≤ c ∧ c ≤ 9223372036854775807) (hz : (1 + E.length) * 56 ≤ 140737488355328) :
    Calls Try.prog 4 #[.slice a E.length c, .agg #[.int .i64 x.kind, .int .i64 x.known, .int .i64 x.cast.id, .int .i64 x.cast.src, .slice u0 x.cast.rain.length q0], .int .i64 h] w fun e w' => e = .returned (.bool true) ∧ Below w.heap.size w w' := by
  obtain ⟨ic, zc, hic, hsz, hzc, hcz, hbc⟩ := infoN56
  obtain ⟨ick, zck, hick, hszk, hzck, hczk, hbck⟩ := infoKc
  have HLM : Hid ((E.map (·.1)).length = E.length) := Lib.hid (List.length_map _)
  have HS := Lib.hid hS
  have HR := Lib.hid hr
  have HU := Lib.hid hu
  have HI := Lib.hid hI
  have HXI := Lib.hid hx
  have HAT := Lib.hid hat
  have HSL : Hid (∀ q ∈ E, ∃ a n c, q.2 = .slice a n c) := Lib.hid fun q hq => by
    obtain ⟨a, c, e, _⟩ := (hr q hq).slice
    exact ⟨a, _, c, e⟩
  obtain ⟨hc1, hc2⟩ := hc
  have HX0 := Lib.hid (heap_alloc_new w (.cells #[.int .i64 x.kind, .int .i64 x.known, .int .i64 x.cast.id, .int .i64 x.cast.src, .slice u0 x.cast.rain.length q0] 29))
  have HB0 := Lib.hid ((Below.refl w.heap.size w).alloc (Nat.le_refl _) (.cells #[.int .i64 x.kind, .int .i64 x.known, .int .i64 x.cast.id, .int .i64 x.cast.src, .slice u0 x.cast.rain.length q0] 29))
  clear hS hr hu hI hx hat
  go_enter Try.func4, Try.ntmps4
  go_upto_region 1 with fail
  generalize w.alloc (.cells #[.int .i64 x.kind, .int .i64 x.known, .int .i64 x.cast.id, .int .i64 x.cast.src, .slice u0 x.cast.rain.length q0] 29) = w0 at *
  have HBX : Hid (w.heap.size ≤ w.heap.size) := Lib.hid (Nat.le_refl _)
  generalize hbX : w.heap.size = bX at HX0 ⊢
  rw [hbX] at HBX
  go_wp2_with fail
  refine (small_any _).mono ?_
  rintro e w1 ⟨rfl, hb⟩
  have HX1 := Lib.hid (blk_below HX0.out hb (blk_lt HX0.out))
  clear HX0
  have HB1 := Lib.hid (HB0.out.trans (hb.mono HB0.out.size))
  clear hb HB0
  go_wp2_with (first | (refine wpList_load_rowW (by first | (go_simp; done) | rfl) 29 _ rfl _ rfl 29 _ _ _ HX1.out undNw rfl infoNw ?_) | (at_builtin; refine Hid.out ?_))
  refine Lib.hid ?_
  have HBa := Lib.hid (HB1.out.alloc HB1.out.size (.cells #[.int .i64 x.kind, .int .i64 x.known, .int .i64 x.cast.id, .int .i64 x.cast.src, .slice u0 x.cast.rain.length q0] 29))
  have HBn := Lib.hid ((Below.refl w1.heap.size w1).alloc (Nat.le_refl _) (.cells #[.int .i64 x.kind, .int .i64 x.known, .int .i64 x.cast.id, .int .i64 x.cast.src, .slice u0 x.cast.rain.length q0] 29))
  have HOn := Lib.hid (owns_one w1 (x, .slice u0 x.cast.rain.length q0))
  refine wpList_append_any _ rfl _ _ 22 rfl w1.heap.size 29 ic zc 5 ic.bytes undNs hic hzc hsz rfl hcz (by decide) _ _ _ rfl HOn.out a E.length c (E.flatMap cellsE) rfl (flatE_len E) (part_any (fun i q hq => by
    obtain ⟨b, o, h1, h2, h3⟩ := HAT.out i q hq
    exact ⟨b, o, h1, range_below h3 HBa.out h2⟩)) (oneE HSL.out) (by unfold maxLen; omega) (by rw [hbc]; exact hz) HBn.out.size ?_
  intro vw2 w2 hown hgr
  have hBn : Below w1.heap.size w1 w2 := HBn.out.grown hgr HBn.out.size (fun q e => (HOn.out.lt q e).1)
  have HX2 := Lib.hid (blk_below HX1.out hBn (blk_lt HX1.out))
  clear HX1
  have HB2 := Lib.hid (HB1.out.trans (hBn.mono HB1.out.size))
  have hown2 : w2.ownsRow w1.heap.size 29 5 vw2 ((x, .slice u0 x.cast.rain.length q0) :: E).length (((x, .slice u0 x.cast.rain.length q0) :: E).flatMap cellsE) := by
    rw [List.length_cons, List.flatMap_cons, Nat.add_comm E.length 1]
    exact hown
  obtain ⟨a2, c2, e2, hns⟩ := newsS_owns hown2 (fun q hq => by
    rcases List.mem_cons.1 hq with rfl | h1
    · exact HU.out.below (stays_list stays_Span 2) HB2.out
    · exact (HR.out q h1).below (stays_list stays_Span 2) HB2.out)
  rw [List.length_map, List.length_cons] at e2
  subst e2
  have HNS := Lib.hid hns
  clear hown hgr hown2 hBn HBa HBn HOn hns HB1
  go_wp2_with fail
  have hl41 : ((x, .slice u0 x.cast.rain.length q0) :: E).length = E.length + 1 := rfl
  have hfew := few_any (((x, .slice u0 x.cast.rain.length q0) :: E).map (·.1)) (((x, .slice u0 x.cast.rain.length q0) :: E).map (·.2)) a2 c2 w2 HNS.out (by rw [List.length_map, List.length_cons]; omega)
  rw [List.length_map, List.length_cons] at hfew
  have HFW := Lib.hid hfew
  clear hfew hl41 HNS
  refine HFW.out.mono ?_
  rintro e w3 ⟨rfl, hb⟩
  have HX3 := Lib.hid (blk_below HX2.out hb (blk_lt HX2.out))
  clear HX2
  have HB3 := Lib.hid (HB2.out.trans (hb.mono HB2.out.size))
  clear hb HB2 HFW
  cases hF : fewB (((x, .slice u0 x.cast.rain.length q0) :: E).map (·.1))
  · go_wp2_with fail
    go_ret
    exact ⟨rfl, HB3.out⟩
  have hFI := (fewB_iff.1 hF).2
  have HFX : Hid (FewN x) := Lib.hid (hFI x (by simp))
  have HFE : Hid (∀ y ∈ (E.map (·.1)), FewN y) := Lib.hid fun y hy => hFI y (by rw [List.map_cons]; exact List.mem_cons_of_mem _ hy)
  clear hF hFI
  by_cases t30 : (30 : Int) < (E.length : Int)
  · go_wp2_with fail
    go_ret
    exact ⟨rfl, HB3.out⟩
  have hl30 : E.length ≤ 30 := by omega
  go_wp2_with fail
  go_loopw [9] (fun iv wr => ∃ k : Nat, k ≤ E.length ∧ iv = .int .i64 (k : Int) ∧ (∀ (j : Nat) (q : Ent), j < k → E[j]? = some q → q.1.cast.id ≠ x.cast.id) ∧ Below w3.heap.size w3 wr) (fun iv _ => E.length - (intOf iv).toNat)
  case atStart => exact ⟨0, Nat.zero_le _, rfl, fun j q hj => absurd hj (Nat.not_lt_zero _), Below.refl _ _⟩
  case round =>
    obtain ⟨k, hk, rfl, hno, hB⟩ := hrel
    have HNO := Lib.hid hno
    have HB := Lib.hid hB
    clear hno hB
    by_cases hlt : k < E.length
    · obtain ⟨q, hq⟩ : ∃ q, E[k]? = some q := ⟨_, List.getElem?_eq_getElem hlt⟩
      have HQ := Lib.hid hq
      obtain ⟨b, o, rfl, hb2, hrg⟩ := HAT.out k q hq
      have hbr := (HB3.out.trans (HB.out.mono HB3.out.size))
      have hrg2 := range_below hrg hbr hb2
      have hb3 := Nat.lt_of_lt_of_le hb2 hbr.size
      unfold cellsE cellsN at hrg2
      have HCK := Lib.hid (hrg2 2 _ rfl)
      have HCL := Lib.hid hb3
      have HXr := Lib.hid (blk_below HX3.out HB.out (blk_lt HX3.out))
      have HXL := Lib.hid (blk_lt HXr.out)
      have HXC := Lib.hid (rowN HXr.out 2 (.int .i64 x.cast.id) rfl)
      have hlti : (k : Int) < (E.length : Int) := by omega
      clear hq hb2 hrg hbr hrg2 hb3
      go_upto_region 8 with fail
      by_cases he : q.1.cast.id = x.cast.id
      · rw [he] at HCK
        refine wp_region_noPanic ?_
        refine wp_region_held_drew (S := fun w' => Below wr.heap.size wr w') (by kernel_rfl) (Below.refl _ _).drew (fun hHeld => ?_)
        refine' wpAnyH_take (i := 0) (v := _) (by simp only [List.getElem?_toArray, List.getElem?_cons_zero]; exact rfl) (by kernel_rfl) (by kernel_rfl) (by kernel_rfl) (fun _ _ _ h => h) (Or.inl ⟨by rfl, ?y0x1⟩) hHeld ?r0x1
        case y0x1 => (intro w hSw; (try dsimp only at hSw); go_simp; try with_reducible rfl)
        try simp only [Act.put, List.setIfInBounds_toArray, List.set_cons_zero, List.set_cons_succ]
        refine' wpAnyH_take (i := 1) (v := _) (by simp only [List.getElem?_toArray, List.getElem?_cons_succ, List.getElem?_cons_zero]; exact rfl) (by kernel_rfl) (by kernel_rfl) (by kernel_rfl) (fun _ _ _ h => h) (Or.inl ⟨by rfl, ?y1x2⟩) hHeld ?r1x2
        case y1x2 => (intro w hSw; (try dsimp only at hSw); go_simp; try with_reducible rfl)
        try simp only [Act.put, List.setIfInBounds_toArray, List.set_cons_zero, List.set_cons_succ]
        refine' wpAnyH_take (i := 2) (v := _) (by simp only [List.getElem?_toArray, List.getElem?_cons_succ, List.getElem?_cons_zero]; exact rfl) (by kernel_rfl) (by kernel_rfl) (by kernel_rfl) (fun _ _ _ h => h) (Or.inl ⟨by rfl, ?y2x3⟩) hHeld ?r2x3
        case y2x3 => (intro w hSw; (try dsimp only at hSw); go_simp; try with_reducible rfl)
        try simp only [Act.put, List.setIfInBounds_toArray, List.set_cons_zero, List.set_cons_succ]
        refine' wpAnyH_take (i := 3) (v := _) (by simp only [List.getElem?_toArray, List.getElem?_cons_succ, List.getElem?_cons_zero]; exact rfl) (by kernel_rfl) (by kernel_rfl) (by kernel_rfl) (fun _ _ _ h => h) (Or.inl ⟨by rfl, ?y3x4⟩) hHeld ?r3x4
        case y3x4 => (intro w hSw; (try dsimp only at hSw); go_simp; try with_reducible rfl)
        try simp only [Act.put, List.setIfInBounds_toArray, List.set_cons_zero, List.set_cons_succ]
        refine' wpAnyH_take (i := 4) (v := _) (by simp only [List.getElem?_toArray, List.getElem?_cons_succ, List.getElem?_cons_zero]; exact rfl) (by kernel_rfl) (by kernel_rfl) (by kernel_rfl) (fun _ _ _ h => h) (Or.inl ⟨by rfl, ?y4x5⟩) hHeld ?r4x5
        case y4x5 => (intro w hSw; (try dsimp only at hSw); go_simp; try with_reducible rfl)
        try simp only [Act.put, List.setIfInBounds_toArray, List.set_cons_zero, List.set_cons_succ]
        refine' wpAnyH_take (i := 5) (v := _) (by simp only [List.getElem?_toArray, List.getElem?_cons_succ, List.getElem?_cons_zero]; exact rfl) (by kernel_rfl) (by kernel_rfl) (by kernel_rfl) (fun _ _ _ h => h) (Or.inl ⟨by rfl, ?y5x6⟩) hHeld ?r5x6
        case y5x6 => (intro wz hSw; have e4 := (hSw.cell HCL.out).trans HCK.out; go_simp; try with_reducible rfl)
        try simp only [Act.put, List.setIfInBounds_toArray, List.set_cons_zero, List.set_cons_succ]
        refine' wpAnyH_take (i := 6) (v := _) (by simp only [List.getElem?_toArray, List.getElem?_cons_succ, List.getElem?_cons_zero]; exact rfl) (by kernel_rfl) (by kernel_rfl) (by kernel_rfl) (fun _ _ _ h => h) (Or.inl ⟨by rfl, ?y6x7⟩) hHeld ?r6x7
        case y6x7 => (intro w hSw; (try dsimp only at hSw); go_simp; try with_reducible rfl)
        try simp only [Act.put, List.setIfInBounds_toArray, List.set_cons_zero, List.set_cons_succ]
        refine' wpAnyH_take (i := 7) (v := _) (by simp only [List.getElem?_toArray, List.getElem?_cons_succ, List.getElem?_cons_zero]; exact rfl) (by kernel_rfl) (by kernel_rfl) (by kernel_rfl) (fun _ _ _ h => h) (Or.inl ⟨by rfl, ?y7x8⟩) hHeld ?r7x8
        case y7x8 => (intro w hSw; (try dsimp only at hSw); go_simp; try with_reducible rfl)
        try simp only [Act.put, List.setIfInBounds_toArray, List.set_cons_zero, List.set_cons_succ]
        refine' wpAnyH_take (i := 8) (v := _) (by simp only [List.getElem?_toArray, List.getElem?_cons_succ, List.getElem?_cons_zero]; exact rfl) (by kernel_rfl) (by kernel_rfl) (by kernel_rfl) (fun _ _ _ h => h) (Or.inl ⟨by rfl, ?y8x9⟩) hHeld ?r8x9
        case y8x9 => (intro wz hSw; have e4 := (hSw.cell HXL.out).trans HXC.out; go_simp; try with_reducible rfl)
        try simp only [Act.put, List.setIfInBounds_toArray, List.set_cons_zero, List.set_cons_succ]
        refine' wpAnyH_take (i := 9) (v := _) (by simp only [List.getElem?_toArray, List.getElem?_cons_succ, List.getElem?_cons_zero]; exact rfl) (by kernel_rfl) (by kernel_rfl) (by kernel_rfl) (fun _ _ _ h => h) (Or.inl ⟨by rfl, ?y9x10⟩) hHeld ?r9x10
        case y9x10 => (intro w hSw; (try dsimp only at hSw); go_simp; try with_reducible rfl)
        try simp only [Act.put, List.setIfInBounds_toArray, List.set_cons_zero, List.set_cons_succ]
        refine wpAnyH_done (by kernel_rfl) ?_ _
        refine NoPanic.normal ?_
        have HF3 := Lib.hid (HB3.out.trans ((HB.out.trans (hHeld.mono HB.out.size)).mono HB3.out.size))
        go_wp2_with fail
        go_ret
        exact ⟨rfl, HF3.out⟩
      · have hne : (q.1.cast.id == x.cast.id) = false := beq_eq_false_iff_ne.2 he
        refine wp_region_noPanic ?_
        refine wp_region_held_drew (S := fun w' => Below wr.heap.size wr w') (by kernel_rfl) (Below.refl _ _).drew (fun hHeld => ?_)
        refine' wpAnyH_take (i := 0) (v := _) (by simp only [List.getElem?_toArray, List.getElem?_cons_zero]; exact rfl) (by kernel_rfl) (by kernel_rfl) (by kernel_rfl) (fun _ _ _ h => h) (Or.inl ⟨by rfl, ?y0x11⟩) hHeld ?r0x11
        case y0x11 => (intro w hSw; (try dsimp only at hSw); go_simp; try with_reducible rfl)
        try simp only [Act.put, List.setIfInBounds_toArray, List.set_cons_zero, List.set_cons_succ]
        refine' wpAnyH_take (i := 1) (v := _) (by simp only [List.getElem?_toArray, List.getElem?_cons_succ, List.getElem?_cons_zero]; exact rfl) (by kernel_rfl) (by kernel_rfl) (by kernel_rfl) (fun _ _ _ h => h) (Or.inl ⟨by rfl, ?y1x12⟩) hHeld ?r1x12
        case y1x12 => (intro w hSw; (try dsimp only at hSw); go_simp; try with_reducible rfl)
        try simp only [Act.put, List.setIfInBounds_toArray, List.set_cons_zero, List.set_cons_succ]
        refine' wpAnyH_take (i := 2) (v := _) (by simp only [List.getElem?_toArray, List.getElem?_cons_succ, List.getElem?_cons_zero]; exact rfl) (by kernel_rfl) (by kernel_rfl) (by kernel_rfl) (fun _ _ _ h => h) (Or.inl ⟨by rfl, ?y2x13⟩) hHeld ?r2x13
        case y2x13 => (intro w hSw; (try dsimp only at hSw); go_simp; try with_reducible rfl)
        try simp only [Act.put, List.setIfInBounds_toArray, List.set_cons_zero, List.set_cons_succ]
        refine' wpAnyH_take (i := 3) (v := _) (by simp only [List.getElem?_toArray, List.getElem?_cons_succ, List.getElem?_cons_zero]; exact rfl) (by kernel_rfl) (by kernel_rfl) (by kernel_rfl) (fun _ _ _ h => h) (Or.inl ⟨by rfl, ?y3x14⟩) hHeld ?r3x14
        case y3x14 => (intro w hSw; (try dsimp only at hSw); go_simp; try with_reducible rfl)
        try simp only [Act.put, List.setIfInBounds_toArray, List.set_cons_zero, List.set_cons_succ]
        refine' wpAnyH_take (i := 4) (v := _) (by simp only [List.getElem?_toArray, List.getElem?_cons_succ, List.getElem?_cons_zero]; exact rfl) (by kernel_rfl) (by kernel_rfl) (by kernel_rfl) (fun _ _ _ h => h) (Or.inl ⟨by rfl, ?y4x15⟩) hHeld ?r4x15
        case y4x15 => (intro w hSw; (try dsimp only at hSw); go_simp; try with_reducible rfl)
        try simp only [Act.put, List.setIfInBounds_toArray, List.set_cons_zero, List.set_cons_succ]
        refine' wpAnyH_take (i := 5) (v := _) (by simp only [List.getElem?_toArray, List.getElem?_cons_succ, List.getElem?_cons_zero]; exact rfl) (by kernel_rfl) (by kernel_rfl) (by kernel_rfl) (fun _ _ _ h => h) (Or.inl ⟨by rfl, ?y5x16⟩) hHeld ?r5x16
        case y5x16 => (intro wz hSw; have e4 := (hSw.cell HCL.out).trans HCK.out; go_simp; try with_reducible rfl)
        try simp only [Act.put, List.setIfInBounds_toArray, List.set_cons_zero, List.set_cons_succ]
        refine' wpAnyH_take (i := 6) (v := _) (by simp only [List.getElem?_toArray, List.getElem?_cons_succ, List.getElem?_cons_zero]; exact rfl) (by kernel_rfl) (by kernel_rfl) (by kernel_rfl) (fun _ _ _ h => h) (Or.inl ⟨by rfl, ?y6x17⟩) hHeld ?r6x17
        case y6x17 => (intro w hSw; (try dsimp only at hSw); go_simp; try with_reducible rfl)
        try simp only [Act.put, List.setIfInBounds_toArray, List.set_cons_zero, List.set_cons_succ]
        refine' wpAnyH_take (i := 7) (v := _) (by simp only [List.getElem?_toArray, List.getElem?_cons_succ, List.getElem?_cons_zero]; exact rfl) (by kernel_rfl) (by kernel_rfl) (by kernel_rfl) (fun _ _ _ h => h) (Or.inl ⟨by rfl, ?y7x18⟩) hHeld ?r7x18
        case y7x18 => (intro w hSw; (try dsimp only at hSw); go_simp; try with_reducible rfl)
        try simp only [Act.put, List.setIfInBounds_toArray, List.set_cons_zero, List.set_cons_succ]
        refine' wpAnyH_take (i := 8) (v := _) (by simp only [List.getElem?_toArray, List.getElem?_cons_succ, List.getElem?_cons_zero]; exact rfl) (by kernel_rfl) (by kernel_rfl) (by kernel_rfl) (fun _ _ _ h => h) (Or.inl ⟨by rfl, ?y8x19⟩) hHeld ?r8x19
        case y8x19 => (intro wz hSw; have e4 := (hSw.cell HXL.out).trans HXC.out; go_simp; try with_reducible rfl)
        try simp only [Act.put, List.setIfInBounds_toArray, List.set_cons_zero, List.set_cons_succ]
        refine' wpAnyH_take (i := 9) (v := _) (by simp only [List.getElem?_toArray, List.getElem?_cons_succ, List.getElem?_cons_zero]; exact rfl) (by kernel_rfl) (by kernel_rfl) (by kernel_rfl) (fun _ _ _ h => h) (Or.inl ⟨by rfl, ?y9x20⟩) hHeld ?r9x20
        case y9x20 => (intro w hSw; (try dsimp only at hSw); go_simp; try with_reducible rfl)
        try simp only [Act.put, List.setIfInBounds_toArray, List.set_cons_zero, List.set_cons_succ]
        refine wpAnyH_done (by kernel_rfl) ?_ _
        refine NoPanic.normal ?_
        have HF3 := Lib.hid (HB.out.trans (hHeld.mono HB.out.size))
        go_wp2_with fail
        go_roundw
        case rel => exact ⟨k + 1, by omega, by go_num, fun j q' hj hq' => by
          rcases Nat.lt_succ_iff_lt_or_eq.1 hj with h1 | rfl
          · exact HNO.out j q' h1 hq'
          · have := HQ.out
            rw [hq'] at this
            cases this
            exact he, HF3.out⟩
        case measure => simp [intOf]; omega
    · obtain rfl : k = E.length := by omega
      have HNE : Hid (∀ y ∈ (E.map (·.1)), y.cast.id ≠ x.cast.id) := Lib.hid fun y hy => by
        obtain ⟨q, hq, rfl⟩ := List.mem_map.1 hy
        obtain ⟨j, hj⟩ := List.getElem?_of_mem hq
        exact HNO.out j q (List.getElem?_eq_some_iff.1 hj).1 hj
      have HX4 := Lib.hid (blk_below HX3.out HB.out (blk_lt HX3.out))
      have HB4 := Lib.hid (HB3.out.trans (HB.out.mono HB3.out.size))
      have hadm := adm_any (E.map (·.1)) (E.map (·.2)) a c h wr (HS.out.below HB4.out) HI.out HFE.out (by rw [HLM.out]; omega)
      rw [HLM.out] at hadm
      have HD1 := Lib.hid hadm
      clear hadm HNO HX3 HB3 hk hlt
      go_wp2_with fail
      refine HD1.out.mono ?_
      rintro e w5 ⟨big1, va, rfl, hb1, hla, hb⟩
      have HG1 := Lib.hid hb1
      have HX5 := Lib.hid (blk_below HX4.out hb (blk_lt HX4.out))
      clear HX4
      have HB5 := Lib.hid (HB4.out.trans (hb.mono HB4.out.size))
      obtain ⟨pa, ca, hva, hca1, hca2⟩ := hla.slice
      obtain ⟨n1, hn1⟩ : ∃ n, ((keepN big1).map (·.cast)).length = n := ⟨_, rfl⟩
      rw [hn1] at hva
      subst hva
      have HN1 := Lib.hid hn1
      clear hca1 hca2 hn1
      have HLA5 := Lib.hid hla
      clear hb1 hla hb HB4 HD1
      go_wp2_with (first | (refine wpList_load_rowW (by first | (go_simp; done) | rfl) 29 _ rfl _ rfl 29 _ _ _ HX5.out undNw rfl infoNw ?_) | (at_builtin; refine Hid.out ?_))
      refine Lib.hid ?_
      have HBa := Lib.hid (HB5.out.alloc HB5.out.size (.cells #[.int .i64 x.kind, .int .i64 x.known, .int .i64 x.cast.id, .int .i64 x.cast.src, .slice u0 x.cast.rain.length q0] 29))
      have HBn := Lib.hid ((Below.refl w5.heap.size w5).alloc (Nat.le_refl _) (.cells #[.int .i64 x.kind, .int .i64 x.known, .int .i64 x.cast.id, .int .i64 x.cast.src, .slice u0 x.cast.rain.length q0] 29))
      have HOn := Lib.hid (owns_one w5 (x, .slice u0 x.cast.rain.length q0))
      refine wpList_append_any _ rfl _ _ 22 rfl w5.heap.size 29 ic zc 5 ic.bytes undNs hic hzc hsz rfl hcz (by decide) _ _ _ rfl HOn.out a E.length c (E.flatMap cellsE) rfl (flatE_len E) (part_any (fun i q hq => by
        obtain ⟨b, o, h1, h2, h3⟩ := HAT.out i q hq
        exact ⟨b, o, h1, range_below h3 HBa.out h2⟩)) (oneE HSL.out) (by unfold maxLen; omega) (by rw [hbc]; exact hz) HBn.out.size ?_
      intro vw6 w6 hown hgr
      have hBn : Below w5.heap.size w5 w6 := HBn.out.grown hgr HBn.out.size (fun q e => (HOn.out.lt q e).1)
      have HX6 := Lib.hid (blk_below HX5.out hBn (blk_lt HX5.out))
      clear HX5
      have HB6 := Lib.hid (HB5.out.trans (hBn.mono HB5.out.size))
      have hown2 : w6.ownsRow w5.heap.size 29 5 vw6 ((x, .slice u0 x.cast.rain.length q0) :: E).length (((x, .slice u0 x.cast.rain.length q0) :: E).flatMap cellsE) := by
        rw [List.length_cons, List.flatMap_cons, Nat.add_comm E.length 1]
        exact hown
      obtain ⟨a3, c3, e2, hns⟩ := newsS_owns hown2 (fun q hq => by
        rcases List.mem_cons.1 hq with rfl | h1
        · exact HU.out.below (stays_list stays_Span 2) HB6.out
        · exact (HR.out q h1).below (stays_list stays_Span 2) HB6.out)
      rw [List.length_map, List.length_cons] at e2
      subst e2
      have HNS := Lib.hid hns
      have HBq := Lib.hid hBn
      clear hown hgr hown2 hBn HBa HBn HOn hns HB5
      have HLA6 := Lib.hid (HLA5.out.below stays_Cast HBq.out)
      clear HLA5 HBq
      have hadm := adm_own (((x, .slice u0 x.cast.rain.length q0) :: E).map (·.1)) (((x, .slice u0 x.cast.rain.length q0) :: E).map (·.2)) a3 c3 h w6 HNS.out (fun y hy => by
        rw [List.map_cons] at hy
        rcases List.mem_cons.1 hy with rfl | h1
        · exact HXI.out
        · exact HI.out y h1) (fun y hy => by
        rw [List.map_cons] at hy
        rcases List.mem_cons.1 hy with rfl | h1
        · exact HFX.out
        · exact HFE.out y h1) (by rw [List.length_map, List.length_cons]; omega)
      rw [List.length_map, List.length_cons] at hadm
      have HD2 := Lib.hid hadm
      clear hadm HNS
      go_wp2_with fail
      refine HD2.out.mono ?_
      rintro e w7 ⟨big2, vb, ks, rfl, hb2, hk2, hm2, ho2, hb⟩
      have HX7 := Lib.hid (blk_below HX6.out hb (blk_lt HX6.out))
      clear HX6
      have HB7 := Lib.hid (HB6.out.trans (hb.mono HB6.out.size))
      have HLA7 := Lib.hid (HLA6.out.below stays_Cast hb)
      have HLW := Lib.hid (aside_law HI.out (by rw [HLM.out]; exact hl30) HNE.out HG1.out hb2)
      have HKE := Lib.hid hk2
      have HNN : Hid ((ks.length : Int) = (n1 : Int) + 1 ↔ (x.known ≤ h ∧ 0 ≤ x.kind ∧ x.kind < 2)) := Lib.hid (by
        rw [← HLW.out.len, ← hk2, List.length_map, ← HN1.out, List.length_map])
      have HKR : Hid (∀ q ∈ ks, LArg (RList RSpan 2) 1 q.2 q.1.cast.rain w7 ∧ I64n q.1) := Lib.hid fun q hq => by
        obtain ⟨j, h1, h2⟩ := hm2 q hq
        have hqm := ent_mem (E := (x, .slice u0 x.cast.rain.length q0) :: E) h1 h2
        rcases List.mem_cons.1 hqm with rfl | h3
        · exact ⟨HU.out.below (stays_list stays_Span 2) HB7.out, HXI.out.1⟩
        · exact ⟨(HR.out q h3).below (stays_list stays_Span 2) HB7.out, (HI.out q.1 (List.mem_map.2 ⟨q, h3, rfl⟩)).1⟩
      have hkl : ks.length ≤ 32 := by
        have h1 := HLW.out.few
        rw [← hk2, List.length_map] at h1
        exact h1
      obtain ⟨a4, c4, rfl, hat4⟩ := ownsK_at ho2
      have HAK := Lib.hid hat4
      have HOK := Lib.hid ho2
      clear hb2 hk2 hm2 ho2 hb hat4 HD2 HLA6 HB6
      go_wp2_with fail
      go_loopw [12, 13] (fun tv iv wx => ∃ k : Nat, k ≤ ks.length ∧ iv = .int .i64 (k : Int) ∧ wx.ownsRow w7.heap.size 27 3 tv (restE x.cast.id (ks.take k)).length ((restE x.cast.id (ks.take k)).flatMap cellsK) ∧ Below w7.heap.size w7 wx) (fun _ iv _ => ks.length - (intOf iv).toNat)
      case atStart => exact ⟨0, Nat.zero_le _, rfl, World.ownsRow_nil _ _ _ _, Below.refl _ _⟩
      case round =>
        obtain ⟨k, hk, rfl, hkn, hB⟩ := hrel
        obtain ⟨ak, ckn, hks⟩ := owns_slice hkn
        subst hks
        have HK := Lib.hid hkn
        have HB := Lib.hid hB
        clear hkn hB
        have HXr := Lib.hid (blk_below HX7.out HB.out (blk_lt HX7.out))
        have HXL := Lib.hid (blk_lt HXr.out)
        have HXC := Lib.hid (rowN HXr.out 2 (.int .i64 x.cast.id) rfl)
        by_cases hlt : k < ks.length
        · obtain ⟨q, hq⟩ : ∃ q, ks[k]? = some q := ⟨_, List.getElem?_eq_getElem hlt⟩
          have HQ := Lib.hid hq
          have HRS := Lib.hid (rest_step (t := x.cast.id) hq)
          obtain ⟨g, rfl, hg1, hg2, hrg⟩ := HAK.out k q hq
          have hrg2 := range_below hrg HB.out hg2
          have hg3 := Nat.lt_of_lt_of_le hg2 HB.out.size
          obtain ⟨qa, qc, hq2, -, -⟩ := (HKR.out q (List.mem_of_getElem? hq)).1.slice
          obtain ⟨y, u⟩ := q
          dsimp only at hq2
          subst hq2
          unfold cellsK at hrg2
          rw [Nat.zero_add] at hrg2
          have HRG := Lib.hid hrg2
          have HCK : Hid (wr.cell? ⟨g, k * 3, none⟩ = some (.int .i64 y.cast.id)) := Lib.hid (hrg2 0 _ rfl)
          have HCL := Lib.hid hg3
          have hlti : (k : Int) < (ks.length : Int) := by omega
          clear hq hg1 hg2 hrg hrg2 hg3
          go_upto_region 16 with fail
          by_cases he : y.cast.id = x.cast.id
          · have HK5 : Hid (wr.ownsRow w7.heap.size 27 3 (.slice ak (restE x.cast.id (ks.take k)).length ckn) (restE x.cast.id (ks.take (k + 1))).length ((restE x.cast.id (ks.take (k + 1))).flatMap cellsK)) := Lib.hid (by
              rw [HRS.out, if_neg (fun hn => hn he), List.append_nil]
              exact HK.out)
            rw [he] at HCK
            refine wp_region_noPanic ?_
            refine wp_region_held_drew (S := fun w' => Below wr.heap.size wr w') (by kernel_rfl) (Below.refl _ _).drew (fun hHeld => ?_)
            refine' wpAnyH_take (i := 0) (v := _) (by simp only [List.getElem?_toArray, List.getElem?_cons_zero]; exact rfl) (by kernel_rfl) (by kernel_rfl) (by kernel_rfl) (fun _ _ _ h => h) (Or.inl ⟨by rfl, ?y0x21⟩) hHeld ?r0x21
            case y0x21 => (intro w hSw; (try dsimp only at hSw); go_simp; try with_reducible rfl)
            try simp only [Act.put, List.setIfInBounds_toArray, List.set_cons_zero, List.set_cons_succ]
            refine' wpAnyH_take (i := 1) (v := _) (by simp only [List.getElem?_toArray, List.getElem?_cons_succ, List.getElem?_cons_zero]; exact rfl) (by kernel_rfl) (by kernel_rfl) (by kernel_rfl) (fun _ _ _ h => h) (Or.inl ⟨by rfl, ?y1x22⟩) hHeld ?r1x22
            case y1x22 => (intro w hSw; (try dsimp only at hSw); go_simp; try with_reducible rfl)
            try simp only [Act.put, List.setIfInBounds_toArray, List.set_cons_zero, List.set_cons_succ]
            refine' wpAnyH_take (i := 2) (v := _) (by simp only [List.getElem?_toArray, List.getElem?_cons_succ, List.getElem?_cons_zero]; exact rfl) (by kernel_rfl) (by kernel_rfl) (by kernel_rfl) (fun _ _ _ h => h) (Or.inl ⟨by rfl, ?y2x23⟩) hHeld ?r2x23
            case y2x23 => (intro w hSw; (try dsimp only at hSw); go_simp; try with_reducible rfl)
            try simp only [Act.put, List.setIfInBounds_toArray, List.set_cons_zero, List.set_cons_succ]
            refine' wpAnyH_take (i := 3) (v := _) (by simp only [List.getElem?_toArray, List.getElem?_cons_succ, List.getElem?_cons_zero]; exact rfl) (by kernel_rfl) (by kernel_rfl) (by kernel_rfl) (fun _ _ _ h => h) (Or.inl ⟨by rfl, ?y3x24⟩) hHeld ?r3x24
            case y3x24 => (intro w hSw; (try dsimp only at hSw); go_simp; try with_reducible rfl)
            try simp only [Act.put, List.setIfInBounds_toArray, List.set_cons_zero, List.set_cons_succ]
            refine' wpAnyH_take (i := 4) (v := _) (by simp only [List.getElem?_toArray, List.getElem?_cons_succ, List.getElem?_cons_zero]; exact rfl) (by kernel_rfl) (by kernel_rfl) (by kernel_rfl) (fun _ _ _ h => h) (Or.inl ⟨by rfl, ?y4x25⟩) hHeld ?r4x25
            case y4x25 => (intro wz hSw; have e4 := (hSw.cell HCL.out).trans HCK.out; go_simp; try with_reducible rfl)
            try simp only [Act.put, List.setIfInBounds_toArray, List.set_cons_zero, List.set_cons_succ]
            refine' wpAnyH_take (i := 5) (v := _) (by simp only [List.getElem?_toArray, List.getElem?_cons_succ, List.getElem?_cons_zero]; exact rfl) (by kernel_rfl) (by kernel_rfl) (by kernel_rfl) (fun _ _ _ h => h) (Or.inl ⟨by rfl, ?y5x26⟩) hHeld ?r5x26
            case y5x26 => (intro w hSw; (try dsimp only at hSw); go_simp; try with_reducible rfl)
            try simp only [Act.put, List.setIfInBounds_toArray, List.set_cons_zero, List.set_cons_succ]
            refine' wpAnyH_take (i := 6) (v := _) (by simp only [List.getElem?_toArray, List.getElem?_cons_succ, List.getElem?_cons_zero]; exact rfl) (by kernel_rfl) (by kernel_rfl) (by kernel_rfl) (fun _ _ _ h => h) (Or.inl ⟨by rfl, ?y6x27⟩) hHeld ?r6x27
            case y6x27 => (intro w hSw; (try dsimp only at hSw); go_simp; try with_reducible rfl)
            try simp only [Act.put, List.setIfInBounds_toArray, List.set_cons_zero, List.set_cons_succ]
            refine' wpAnyH_take (i := 7) (v := _) (by simp only [List.getElem?_toArray, List.getElem?_cons_succ, List.getElem?_cons_zero]; exact rfl) (by kernel_rfl) (by kernel_rfl) (by kernel_rfl) (fun _ _ _ h => h) (Or.inl ⟨by rfl, ?y7x28⟩) hHeld ?r7x28
            case y7x28 => (intro wz hSw; have e4 := (hSw.cell HXL.out).trans HXC.out; go_simp; try with_reducible rfl)
            try simp only [Act.put, List.setIfInBounds_toArray, List.set_cons_zero, List.set_cons_succ]
            refine' wpAnyH_take (i := 8) (v := _) (by simp only [List.getElem?_toArray, List.getElem?_cons_succ, List.getElem?_cons_zero]; exact rfl) (by kernel_rfl) (by kernel_rfl) (by kernel_rfl) (fun _ _ _ h => h) (Or.inl ⟨by rfl, ?y8x29⟩) hHeld ?r8x29
            case y8x29 => (intro w hSw; (try dsimp only at hSw); go_simp; try with_reducible rfl)
            try simp only [Act.put, List.setIfInBounds_toArray, List.set_cons_zero, List.set_cons_succ]
            refine wpAnyH_done (by kernel_rfl) ?_ _
            refine NoPanic.normal ?_
            have HF3 := Lib.hid (HB.out.trans (hHeld.mono HB.out.size))
            have HK6 := Lib.hid (owns_up HK5.out hHeld)
            go_wp2_with fail
            go_roundw
            case rel => exact ⟨k + 1, by omega, by go_num, HK6.out, HF3.out⟩
            case measure => simp [intOf]; omega
          · have hne : (y.cast.id == x.cast.id) = false := beq_eq_false_iff_ne.2 he
            have hne2 : (y.cast.id != x.cast.id) = true := bne_iff_ne.2 he
            refine wp_region_noPanic ?_
            refine wp_region_held_drew (S := fun w' => Below wr.heap.size wr w') (by kernel_rfl) (Below.refl _ _).drew (fun hHeld => ?_)
            refine' wpAnyH_take (i := 0) (v := _) (by simp only [List.getElem?_toArray, List.getElem?_cons_zero]; exact rfl) (by kernel_rfl) (by kernel_rfl) (by kernel_rfl) (fun _ _ _ h => h) (Or.inl ⟨by rfl, ?y0x30⟩) hHeld ?r0x30
            case y0x30 => (intro w hSw; (try dsimp only at hSw); go_simp; try with_reducible rfl)
            try simp only [Act.put, List.setIfInBounds_toArray, List.set_cons_zero, List.set_cons_succ]
            refine' wpAnyH_take (i := 1) (v := _) (by simp only [List.getElem?_toArray, List.getElem?_cons_succ, List.getElem?_cons_zero]; exact rfl) (by kernel_rfl) (by kernel_rfl) (by kernel_rfl) (fun _ _ _ h => h) (Or.inl ⟨by rfl, ?y1x31⟩) hHeld ?r1x31
            case y1x31 => (intro w hSw; (try dsimp only at hSw); go_simp; try with_reducible rfl)
            try simp only [Act.put, List.setIfInBounds_toArray, List.set_cons_zero, List.set_cons_succ]
            refine' wpAnyH_take (i := 2) (v := _) (by simp only [List.getElem?_toArray, List.getElem?_cons_succ, List.getElem?_cons_zero]; exact rfl) (by kernel_rfl) (by kernel_rfl) (by kernel_rfl) (fun _ _ _ h => h) (Or.inl ⟨by rfl, ?y2x32⟩) hHeld ?r2x32
            case y2x32 => (intro w hSw; (try dsimp only at hSw); go_simp; try with_reducible rfl)
            try simp only [Act.put, List.setIfInBounds_toArray, List.set_cons_zero, List.set_cons_succ]
            refine' wpAnyH_take (i := 3) (v := _) (by simp only [List.getElem?_toArray, List.getElem?_cons_succ, List.getElem?_cons_zero]; exact rfl) (by kernel_rfl) (by kernel_rfl) (by kernel_rfl) (fun _ _ _ h => h) (Or.inl ⟨by rfl, ?y3x33⟩) hHeld ?r3x33
            case y3x33 => (intro w hSw; (try dsimp only at hSw); go_simp; try with_reducible rfl)
            try simp only [Act.put, List.setIfInBounds_toArray, List.set_cons_zero, List.set_cons_succ]
            refine' wpAnyH_take (i := 4) (v := _) (by simp only [List.getElem?_toArray, List.getElem?_cons_succ, List.getElem?_cons_zero]; exact rfl) (by kernel_rfl) (by kernel_rfl) (by kernel_rfl) (fun _ _ _ h => h) (Or.inl ⟨by rfl, ?y4x34⟩) hHeld ?r4x34
            case y4x34 => (intro wz hSw; have e4 := (hSw.cell HCL.out).trans HCK.out; go_simp; try with_reducible rfl)
            try simp only [Act.put, List.setIfInBounds_toArray, List.set_cons_zero, List.set_cons_succ]
            refine' wpAnyH_take (i := 5) (v := _) (by simp only [List.getElem?_toArray, List.getElem?_cons_succ, List.getElem?_cons_zero]; exact rfl) (by kernel_rfl) (by kernel_rfl) (by kernel_rfl) (fun _ _ _ h => h) (Or.inl ⟨by rfl, ?y5x35⟩) hHeld ?r5x35
            case y5x35 => (intro w hSw; (try dsimp only at hSw); go_simp; try with_reducible rfl)
            try simp only [Act.put, List.setIfInBounds_toArray, List.set_cons_zero, List.set_cons_succ]
            refine' wpAnyH_take (i := 6) (v := _) (by simp only [List.getElem?_toArray, List.getElem?_cons_succ, List.getElem?_cons_zero]; exact rfl) (by kernel_rfl) (by kernel_rfl) (by kernel_rfl) (fun _ _ _ h => h) (Or.inl ⟨by rfl, ?y6x36⟩) hHeld ?r6x36
            case y6x36 => (intro w hSw; (try dsimp only at hSw); go_simp; try with_reducible rfl)
            try simp only [Act.put, List.setIfInBounds_toArray, List.set_cons_zero, List.set_cons_succ]
            refine' wpAnyH_take (i := 7) (v := _) (by simp only [List.getElem?_toArray, List.getElem?_cons_succ, List.getElem?_cons_zero]; exact rfl) (by kernel_rfl) (by kernel_rfl) (by kernel_rfl) (fun _ _ _ h => h) (Or.inl ⟨by rfl, ?y7x37⟩) hHeld ?r7x37
            case y7x37 => (intro wz hSw; have e4 := (hSw.cell HXL.out).trans HXC.out; go_simp; try with_reducible rfl)
            try simp only [Act.put, List.setIfInBounds_toArray, List.set_cons_zero, List.set_cons_succ]
            refine' wpAnyH_take (i := 8) (v := _) (by simp only [List.getElem?_toArray, List.getElem?_cons_succ, List.getElem?_cons_zero]; exact rfl) (by kernel_rfl) (by kernel_rfl) (by kernel_rfl) (fun _ _ _ h => h) (Or.inl ⟨by rfl, ?y8x38⟩) hHeld ?r8x38
            case y8x38 => (intro w hSw; (try dsimp only at hSw); go_simp; try with_reducible rfl)
            try simp only [Act.put, List.setIfInBounds_toArray, List.set_cons_zero, List.set_cons_succ]
            refine wpAnyH_done (by kernel_rfl) ?_ _
            refine NoPanic.normal ?_
            have HF3 := Lib.hid (HB.out.trans (hHeld.mono HB.out.size))
            have HK6 := Lib.hid (owns_up HK.out hHeld)
            have HRG2 := Lib.hid (range_below HRG.out hHeld HCL.out)
            rename World => wf
            have HN := Lib.hid (heap_alloc_new wf (.cells #[.int .i64 y.cast.id, .int .i64 y.cast.src, .slice qa y.cast.rain.length qc] 27))
            have HK7 := Lib.hid (HK6.out.alloc (.cells #[.int .i64 y.cast.id, .int .i64 y.cast.src, .slice qa y.cast.rain.length qc] 27))
            have HF4 := Lib.hid (HF3.out.alloc HF3.out.size (.cells #[.int .i64 y.cast.id, .int .i64 y.cast.src, .slice qa y.cast.rain.length qc] 27))
            have hnew : ∀ i v, (cellsK (y, .slice qa y.cast.rain.length qc))[i]? = some v → (wf.alloc (.cells #[.int .i64 y.cast.id, .int .i64 y.cast.src, .slice qa y.cast.rain.length qc] 27)).cell? ((⟨wf.heap.size, 0, none⟩ : Addr).add i) = some v := fun i v hi => by
              rw [Addr.add_mid, Nat.zero_add, cell_of_row _ _ _ _ _ _ HN.out, ← Array.getElem?_toList]
              exact hi
            have hrl : (restE x.cast.id (ks.take k)).length ≤ 32 := by
              unfold restE
              refine Nat.le_trans (List.length_filter_le _ _) ?_
              rw [List.length_take]
              omega
            go_wp2_with (first | (refine wpList_load_range (by first | (go_simp; done) | rfl) 27 _ rfl _ _ rfl _ _ HRG2.out undKa rfl infoKa ?_) | (at_builtin; refine Hid.out ?_))
            refine Lib.hid ?_
            refine wpList_append_own _ rfl _ _ 30 rfl w7.heap.size 27 ick zck 3 ick.bytes undCs hick hzck hszk rfl hczk (by decide) _ _ _ rfl HK7.out ⟨wf.heap.size, 0, none⟩ 1 1 (cellsK (y, .slice qa y.cast.rain.length qc)) rfl rfl hnew (by unfold cellsK; simp [Value.oneCell']) (by unfold maxLen; omega) (Nat.le_trans (Nat.mul_le_mul_right _ (show (restE x.cast.id (ks.take k)).length + 1 ≤ 1024 by omega)) (by rw [Nat.mul_comm]; exact hbck)) HF4.out.size ?_
            intro v' w5' hown5 hgr5 _
            have HK8 : Hid (w5'.ownsRow w7.heap.size 27 3 v' (restE x.cast.id (ks.take (k + 1))).length ((restE x.cast.id (ks.take (k + 1))).flatMap cellsK)) := Lib.hid (by
              rw [HRS.out, if_pos he, List.length_append, List.flatMap_append]
              simpa using hown5)
            have HB5 : Hid (Below w7.heap.size w7 w5') := Lib.hid (HF4.out.grown hgr5 HF4.out.size (fun q e => (HK7.out.lt q e).1))
            clear hown5 hgr5 hnew HN HK7 HF4 HF3 HK6
            go_wp2_with fail
            go_roundw
            case rel => exact ⟨k + 1, by omega, by go_num, HK8.out, HB5.out⟩
            case measure => simp [intOf]; omega
        · obtain rfl : k = ks.length := by omega
          rw [List.take_length] at HK
          have HB8 := Lib.hid (HB7.out.trans (HB.out.mono HB7.out.size))
          have HLA8 := Lib.hid (HLA7.out.below stays_Cast HB.out)
          have hlr := larg_casts HK.out (fun q hq => by
            have hqm : q ∈ ks := (List.mem_filter.1 hq).1
            obtain ⟨h1, h2⟩ := HKR.out q hqm
            exact ⟨h1.below (stays_list stays_Span 2) HB.out, h2⟩)
          rw [rest_casts HKE.out HLW.out.rest] at hlr
          have HLR := Lib.hid hlr
          have HCI : Hid (∀ y ∈ (keepN big1).map (·.cast), CastI y ∧ FewC y) := Lib.hid fun y hy => by
            obtain ⟨z, hz, rfl⟩ := List.mem_map.1 hy
            have hzb : z ∈ big1 := (List.mem_filter.1 (List.mem_of_mem_take hz)).1
            have hzx := (HG1.out.mem z hzb).1
            obtain ⟨k1, k2, k3, k4⟩ := (HI.out z hzx).1
            exact ⟨⟨⟨⟨by dsimp only; omega, by dsimp only; omega⟩, ⟨by dsimp only; omega, by dsimp only; omega⟩, k3, k4⟩, (HI.out z hzx).2⟩, HFE.out z hzx⟩
          have hlk : ((keepN big1).map (·.cast)).length ≤ 1000 := by
            rw [List.length_map]
            unfold keepN
            rw [List.length_take]
            have := Nat.min_le_left 32 (big1.filter fun x => decide (x.kind ≠ 2)).length
            omega
          have hn1b : n1 ≤ 1000 := by rw [← HN1.out]; exact hlk
          have HX8 := Lib.hid HXr.out
          clear hlr hlt hk HB HXr HXL HXC
          go_wp2_with fail
          refine (sameAll_any _ _ _ _ HLA8.out HLR.out (fun y hy => (HCI.out y hy).1) (fun y hy => (HCI.out y hy).2) hlk).mono ?_
          rintro e w9 ⟨rfl, hb⟩
          have HX9 := Lib.hid (blk_below HX8.out hb (blk_lt HX8.out))
          have HB9 := Lib.hid (HB8.out.trans (hb.mono HB8.out.size))
          have c0 := rowN HX9.out 0 (.int .i64 x.kind) rfl
          have c1 := rowN HX9.out 1 (.int .i64 x.known) rfl
          have hw1 : IntKind.i64.wrap ((n1 : Int) + 1) = (n1 : Int) + 1 := IntWalk.i64_in _ (by omega)
          clear hb HLA8 HLR HB8 HX8
          by_cases d1 : x.known ≤ h
          · by_cases d2 : 0 ≤ x.kind
            · by_cases d3 : x.kind < 2
              · have hee : ((ks.length : Int) == (n1 : Int) + 1) = true := beq_iff_eq.2 (HNN.out.2 ⟨d1, d2, d3⟩)
                go_wp2_with fail
                go_ret
                first | exact ⟨rfl, HB9.out⟩ | exact ⟨rfl, by rw [← hbX]; exact HB9.out⟩
              · have hee : ((ks.length : Int) == (n1 : Int) + 1) = false := beq_eq_false_iff_ne.2 (fun e => d3 (HNN.out.1 e).2.2)
                have d4 : decide (x.kind < 2) = false := decide_eq_false d3
                go_wp2_with fail
                go_ret
                first | exact ⟨rfl, HB9.out⟩ | exact ⟨rfl, by rw [← hbX]; exact HB9.out⟩
            · have hee : ((ks.length : Int) == (n1 : Int) + 1) = false := beq_eq_false_iff_ne.2 (fun e => d2 (HNN.out.1 e).2.1)
              go_wp2_with fail
              go_ret
              first | exact ⟨rfl, HB9.out⟩ | exact ⟨rfl, by rw [← hbX]; exact HB9.out⟩
          · have hee : ((ks.length : Int) == (n1 : Int) + 1) = false := beq_eq_false_iff_ne.2 (fun e => d1 (HNN.out.1 e).1)
            go_wp2_with fail
            go_ret
            first | exact ⟨rfl, HB9.out⟩ | exact ⟨rfl, by rw [← hbX]; exact HB9.out⟩
end Go.Proofs.Ytleiiedacachjaa
