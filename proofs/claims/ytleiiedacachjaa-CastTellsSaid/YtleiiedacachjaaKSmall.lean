/- bournelaw29.small returns true. -/
import Derived.Test.YtleiiedacachjaaKAdm
import Derived.Test.YtleiiedacachjaaKRight
namespace Go.Proofs.Ytleiiedacachjaa
open Go.RowKit
def aS : NewsV := ⟨0, 1, ⟨7, 3, [[⟨1, 4⟩]]⟩⟩
def bS : NewsV := ⟨2, 5, ⟨7, 0, []⟩⟩
def xsS : List NewsV := [bS, aS]
theorem aS_I : NewsI aS := ⟨⟨⟨by decide, by decide⟩, ⟨by decide, by decide⟩, ⟨by decide, by decide⟩, ⟨by decide, by decide⟩⟩, fun r hr s hs => by
  rw [show aS.cast.rain = [[⟨1, 4⟩]] from rfl, List.mem_singleton] at hr
  subst hr
  rw [List.mem_singleton] at hs
  subst hs
  exact ⟨⟨by decide, by decide⟩, ⟨by decide, by decide⟩⟩⟩
theorem bS_I : NewsI bS := ⟨⟨⟨by decide, by decide⟩, ⟨by decide, by decide⟩, ⟨by decide, by decide⟩, ⟨by decide, by decide⟩⟩, fun r hr => by
  rw [show bS.cast.rain = [] from rfl] at hr
  cases hr⟩
theorem xsS_I : ∀ x ∈ xsS, NewsI x := fun x hx => by
  unfold xsS at hx
  simp only [List.mem_cons, List.not_mem_nil, or_false] at hx
  rcases hx with rfl | rfl
  · exact bS_I
  · exact aS_I
theorem xsS_few : ∀ x ∈ xsS, FewN x := fun x hx => by
  unfold xsS at hx
  simp only [List.mem_cons, List.not_mem_nil, or_false] at hx
  rcases hx with rfl | rfl
  · exact ⟨by decide, fun r hr => by rw [show bS.cast.rain = [] from rfl] at hr; cases hr⟩
  · exact ⟨by decide, fun r hr => by
      rw [show aS.cast.rain = [[⟨1, 4⟩]] from rfl, List.mem_singleton] at hr
      subst hr
      decide⟩
theorem mem_xsS {x : NewsV} : x ∈ xsS ↔ x = bS ∨ x = aS := by
  unfold xsS
  simp
theorem big0 : IsBig 0 xsS [] := ⟨List.Pairwise.nil, (fun x hx => by cases hx), fun y hy hc => by
  rcases mem_xsS.1 hy with rfl | rfl <;> exact absurd hc.2.2 (by decide)⟩
theorem big4 : IsBig 4 xsS [aS] := ⟨List.pairwise_singleton _ _, (fun x hx => by
  rw [List.mem_singleton] at hx
  subst hx
  refine ⟨mem_xsS.2 (Or.inr rfl), ⟨by decide, by decide, by decide⟩, fun y hy hc _ => ?_⟩
  rcases mem_xsS.1 hy with rfl | rfl
  · exact absurd hc.2.2 (by decide)
  · exact Or.inl rfl), fun y hy hc => ⟨aS, by simp, by rcases mem_xsS.1 hy with rfl | rfl <;> rfl⟩⟩
theorem lt_ab : newsB aS < newsB bS := by decide +kernel
theorem big5 : IsBig 5 xsS [bS] := ⟨List.pairwise_singleton _ _, (fun x hx => by
  rw [List.mem_singleton] at hx
  subst hx
  refine ⟨mem_xsS.2 (Or.inl rfl), ⟨by decide, by decide, by decide⟩, fun y hy hc _ => ?_⟩
  rcases mem_xsS.1 hy with rfl | rfl
  · exact Or.inl rfl
  · exact Or.inr lt_ab), fun y hy hc => ⟨bS, by simp, by rcases mem_xsS.1 hy with rfl | rfl <;> rfl⟩⟩
theorem cov (f : List Int) (h : Int) (hl : f.length ≤ 64) {b : Bool} (hd : decide (∀ i, i < 64 → ((atL aS.cast h 64)[i]?.getD ⟨0, 0⟩).lo ≤ (f[i]?).getD 0 ∧ (f[i]?).getD 0 ≤ ((atL aS.cast h 64)[i]?.getD ⟨0, 0⟩).hi) = b) : coversB aS.cast h f = b := by
  cases b with
  | true =>
    refine coversB_yes ⟨hl, fun i s hs => ?_⟩
    have hi : i < 64 := by have := (List.getElem?_eq_some_iff.1 hs).1; rw [atL_len] at this; exact this
    have := of_decide_eq_true hd i hi
    rw [hs] at this
    exact this
  | false =>
    refine coversB_no fun hc => of_decide_eq_false hd fun i hi => ?_
    obtain ⟨s, hs⟩ : ∃ s, (atL aS.cast h 64)[i]? = some s := ⟨_, List.getElem?_eq_getElem (by rw [atL_len]; exact hi)⟩
    have := hc.2 i s hs
    rw [hs]
    exact this
theorem cov1 : coversB aS.cast 3 [2] = true := cov _ _ (by decide) (by decide +kernel)
theorem cov2 : coversB aS.cast 3 [5] = false := cov _ _ (by decide) (by decide +kernel)
theorem cov3 : coversB aS.cast 4 [2] = false := cov _ _ (by decide) (by decide +kernel)
theorem rightS1 : rightB 1 aS.cast = true := rightB_yes ⟨⟨by decide, by decide⟩, ⟨by decide, by decide⟩, by decide, fun r hr => by
  rw [show aS.cast.rain = [[⟨1, 4⟩]] from rfl, List.mem_singleton] at hr
  subst hr
  refine ⟨rfl, fun s hs => ?_⟩
  rw [List.mem_singleton] at hs
  subst hs
  exact ⟨by decide, by decide, by decide⟩⟩
theorem larg_one {w : World} {b : Nat} {n : Int} {t : TypeId} (h : w.heap[b]? = some (.cells #[.int .i64 n] t (0, 0))) (hn : I64 n) : LArg RInt 1 (.slice (some ⟨b, 0, none⟩) 1 1) [n] w :=
  ⟨some ⟨b, 0, none⟩, 1, rfl, Nat.le_refl _, by unfold maxLen; omega, fun j x hj => by
    match j, hj with
    | 0, hj => cases hj; exact ⟨b, 0, [.int .i64 n], rfl, blk_lt h, rfl, (fun i u hu => by
        match i, hu with
        | 0, hu => cases hu; exact rowN h 0 _ rfl), rfl, hn.1, hn.2⟩⟩
theorem make_place (w : World) : (Instr.makeSlice 41 (.int .i64 1) (.int .i64 1)).run Try.prog w = .ok (.slice (some ⟨w.heap.size, 0, none⟩) 1 1) (w.alloc (.cells #[.string ⟨#[]⟩, .int .i64 0, .int .i64 0, .int .i64 0, .slice none 0 0, .slice none 0 0, .int .i64 0, .int .i64 0, .int .i64 0, .int .i64 0, .int .i64 0, .slice none 0 0] 145)) := by kernel_rfl
theorem rain_S {w : World} {b0 b1 : Nat} (h0 : w.heap[b0]? = some (.cells #[.int .i64 1, .int .i64 4] 54 (0, 0))) (h1 : w.heap[b1]? = some (.cells #[.slice (some ⟨b0, 0, none⟩) 1 1] 50 (0, 0))) : LArg (RList RSpan 2) 1 (.slice (some ⟨b1, 0, none⟩) 1 1) aS.cast.rain w :=
  ⟨some ⟨b1, 0, none⟩, 1, rfl, Nat.le_refl _, by unfold maxLen; omega, fun j x hj => by
    match j, hj with
    | 0, hj =>
      cases hj
      refine ⟨b1, 0, [.slice (some ⟨b0, 0, none⟩) 1 1], rfl, blk_lt h1, rfl, (fun i u hu => by
        match i, hu with
        | 0, hu => cases hu; exact rowN h1 0 _ rfl), _, rfl, some ⟨b0, 0, none⟩, 1, rfl, Nat.le_refl _, by unfold maxLen; omega, fun i s hs => ?_⟩
      match i, hs with
      | 0, hs => cases hs; exact ⟨b0, 0, [.int .i64 1, .int .i64 4], rfl, blk_lt h0, rfl, range2 (rowN h0 0 _ rfl) (rowN h0 1 _ rfl), rfl, ⟨by decide, by decide⟩, ⟨by decide, by decide⟩⟩⟩
theorem news_S {w : World} {b0 b1 b4 : Nat} (h0 : w.heap[b0]? = some (.cells #[.int .i64 1, .int .i64 4] 54 (0, 0))) (h1 : w.heap[b1]? = some (.cells #[.slice (some ⟨b0, 0, none⟩) 1 1] 50 (0, 0)))
    (h4 : w.heap[b4]? = some (.cells #[.int .i64 2, .int .i64 5, .int .i64 7, .int .i64 0, .slice none 0 0, .int .i64 0, .int .i64 1, .int .i64 7, .int .i64 3, .slice (some ⟨b1, 0, none⟩) 1 1] 29 (0, 0))) :
    NewsS xsS [.slice none 0 0, .slice (some ⟨b1, 0, none⟩) 1 1] (some ⟨b4, 0, none⟩) w :=
  ⟨rfl, fun i x hx => by
    match i, hx with
    | 0, hx =>
      cases hx
      refine ⟨_, b4, 0, rfl, rfl, blk_lt h4, (fun j u hu => ?_), none, 0, rfl, Nat.le_refl _, Nat.zero_le _, fun j y hy => by cases hy⟩
      match j, hu with
      | 0, hu => cases hu; exact rowN h4 0 _ rfl
      | 1, hu => cases hu; exact rowN h4 1 _ rfl
      | 2, hu => cases hu; exact rowN h4 2 _ rfl
      | 3, hu => cases hu; exact rowN h4 3 _ rfl
      | 4, hu => cases hu; exact rowN h4 4 _ rfl
    | 1, hx =>
      cases hx
      refine ⟨_, b4, 0, rfl, rfl, blk_lt h4, (fun j u hu => ?_), rain_S h0 h1⟩
      match j, hu with
      | 0, hu => cases hu; exact rowN h4 5 _ rfl
      | 1, hu => cases hu; exact rowN h4 6 _ rfl
      | 2, hu => cases hu; exact rowN h4 7 _ rfl
      | 3, hu => cases hu; exact rowN h4 8 _ rfl
      | 4, hu => cases hu; exact rowN h4 9 _ rfl⟩
theorem five_newS (w : World) (A B C D E : Obj) : (((((w.alloc A).alloc B).alloc C).alloc D).alloc E).heap[w.heap.size]? = some A ∧ (((((w.alloc A).alloc B).alloc C).alloc D).alloc E).heap[w.heap.size + 1]? = some B ∧ (((((w.alloc A).alloc B).alloc C).alloc D).alloc E).heap[w.heap.size + 1 + 1]? = some C ∧
    (((((w.alloc A).alloc B).alloc C).alloc D).alloc E).heap[w.heap.size + 1 + 1 + 1 + 1]? = some E ∧ Below w.heap.size w (((((w.alloc A).alloc B).alloc C).alloc D).alloc E) := by
  have st : ∀ (u : World) (o : Obj), Below u.heap.size u (u.alloc o) := fun u o => (Below.refl _ _).alloc (Nat.le_refl _) o
  have s1 : (w.alloc A).heap.size = w.heap.size + 1 := by simp
  have s2 : ((w.alloc A).alloc B).heap.size = w.heap.size + 1 + 1 := by simp
  have s3 : (((w.alloc A).alloc B).alloc C).heap.size = w.heap.size + 1 + 1 + 1 := by simp
  have s4 : ((((w.alloc A).alloc B).alloc C).alloc D).heap.size = w.heap.size + 1 + 1 + 1 + 1 := by simp
  have hB := heap_alloc_new (w.alloc A) B
  rw [s1] at hB
  have hC := heap_alloc_new ((w.alloc A).alloc B) C
  rw [s2] at hC
  have hE := heap_alloc_new ((((w.alloc A).alloc B).alloc C).alloc D) E
  rw [s4] at hE
  have b5 := st ((((w.alloc A).alloc B).alloc C).alloc D) E
  have b4 := (st (((w.alloc A).alloc B).alloc C) D).trans (b5.mono (by rw [s3, s4]; omega))
  have b3 := (st ((w.alloc A).alloc B) C).trans (b4.mono (by rw [s2, s3]; omega))
  have b2 := (st (w.alloc A) B).trans (b3.mono (by rw [s1, s2]; omega))
  exact ⟨blk_below (heap_alloc_new w A) b2 (blk_lt (heap_alloc_new w A)), blk_below hB b3 (blk_lt hB), blk_below hC b4 (blk_lt hC), hE, (st w A).trans (b2.mono (by rw [s1]; omega))⟩
set_option maxRecDepth 100000 in
set_option maxHeartbeats 8000000 in
theorem small_any (w : World) : Calls Try.prog 9 #[] w fun e w' => e = .returned (.bool true) ∧ Below w.heap.size w w' := by
  go_enter Try.func9, Try.ntmps9
  go_upto_region 4 with fail
  obtain ⟨r0, r1, r2, r4, rb⟩ := five_newS w (.cells #[.int .i64 1, .int .i64 4] 54) (.cells #[.slice (some ⟨w.heap.size, 0, none⟩) 1 1] 50) (.cells #[.int .i64 0, .int .i64 1, .int .i64 7, .int .i64 3, .slice (some ⟨w.heap.size + 1, 0, none⟩) 1 1] 29) (.cells #[.int .i64 2, .int .i64 5, .int .i64 7, .int .i64 0, .slice none 0 0] 29) (.cells #[.int .i64 2, .int .i64 5, .int .i64 7, .int .i64 0, .slice none 0 0, .int .i64 0, .int .i64 1, .int .i64 7, .int .i64 3, .slice (some ⟨w.heap.size + 1, 0, none⟩) 1 1] 29)
  generalize (((((w.alloc (.cells #[.int .i64 1, .int .i64 4] 54)).alloc (.cells #[.slice (some ⟨w.heap.size, 0, none⟩) 1 1] 50)).alloc (.cells #[.int .i64 0, .int .i64 1, .int .i64 7, .int .i64 3, .slice (some ⟨w.heap.size + 1, 0, none⟩) 1 1] 29)).alloc (.cells #[.int .i64 2, .int .i64 5, .int .i64 7, .int .i64 0, .slice none 0 0] 29)).alloc (.cells #[.int .i64 2, .int .i64 5, .int .i64 7, .int .i64 0, .slice none 0 0, .int .i64 0, .int .i64 1, .int .i64 7, .int .i64 3, .slice (some ⟨w.heap.size + 1, 0, none⟩) 1 1] 29)) = w1 at *
  have HNS := Lib.hid (news_S r0 r1 r4)
  have HRN := Lib.hid (rain_S r0 r1)
  have HA1 := Lib.hid r2
  have HB1 := Lib.hid rb
  clear r0 r1 r2 r4 rb
  go_wp2_with fail
  refine (adm_any xsS [.slice none 0 0, .slice (some ⟨w.heap.size + 1, 0, none⟩) 1 1] (some ⟨w.heap.size + 1 + 1 + 1 + 1, 0, none⟩) 2 4 _ HNS.out xsS_I xsS_few (by decide)).mono ?_
  rintro e w5 ⟨big, v, rfl, hbig, hlv, hb5⟩
  obtain rfl : big = [aS] := big_unique xsS_I xsS_I (fun _ _ => Iff.rfl) hbig big4
  have hlv2 : LArg RCast 3 v [aS.cast] w5 := hlv
  clear hlv
  obtain ⟨av, cv, e1, -, -⟩ := hlv2.slice
  have e2 : v = .slice av 1 cv := e1
  subst e2
  clear e1
  obtain ⟨g, o, cs, ha, hgl, -, hrg, u, rfl, -⟩ := hlv2.at (j := 0) (x := aS.cast) rfl
  subst ha
  have HGL := Lib.hid hgl
  have HC7 : Hid (w5.cell? ⟨g, o, none⟩ = some (.int .i64 7)) := Lib.hid (hrg 0 _ rfl)
  have HA := Lib.hid (blk_below HA1.out hb5 (blk_lt HA1.out))
  have HNS5 := Lib.hid (HNS.out.below hb5)
  have HRN5 := Lib.hid (HRN.out.below (stays_list stays_Span 2) hb5)
  have HB5 := Lib.hid (HB1.out.trans (hb5.mono HB1.out.size))
  clear hrg hgl hlv2 hbig hb5 HNS HRN HA1 HB1
  have HD0 : Hid (∀ W, Below w5.heap.size w5 W → Calls Try.prog 11 #[.slice (some ⟨w.heap.size + 1 + 1 + 1 + 1, 0, none⟩) 2 2, .int .i64 0] W (fun e W' => ∃ a c, e = .returned (.slice a 0 c) ∧ Below W.heap.size W W')) := Lib.hid fun W hb => by
    refine (adm_any xsS _ (some ⟨w.heap.size + 1 + 1 + 1 + 1, 0, none⟩) 2 0 W (HNS5.out.below hb) xsS_I xsS_few (by decide)).mono ?_
    rintro e w' ⟨big, v, rfl, hbig, hlv, hb'⟩
    obtain rfl : big = [] := big_unique xsS_I xsS_I (fun _ _ => Iff.rfl) hbig big0
    obtain ⟨av, cv, rfl, -, -⟩ := hlv.slice
    exact ⟨av, cv, rfl, hb'⟩
  have HD5 : Hid (∀ W, Below w5.heap.size w5 W → Calls Try.prog 11 #[.slice (some ⟨w.heap.size + 1 + 1 + 1 + 1, 0, none⟩) 2 2, .int .i64 5] W (fun e W' => ∃ a c, e = .returned (.slice a 0 c) ∧ Below W.heap.size W W')) := Lib.hid fun W hb => by
    refine (adm_any xsS _ (some ⟨w.heap.size + 1 + 1 + 1 + 1, 0, none⟩) 2 5 W (HNS5.out.below hb) xsS_I xsS_few (by decide)).mono ?_
    rintro e w' ⟨big, v, rfl, hbig, hlv, hb'⟩
    obtain rfl : big = [bS] := big_unique xsS_I xsS_I (fun _ _ => Iff.rfl) hbig big5
    obtain ⟨av, cv, rfl, -, -⟩ := hlv.slice
    exact ⟨av, cv, rfl, hb'⟩
  have HV1 : Hid (∀ W vf, Below w5.heap.size w5 W → LArg RInt 1 vf [2] W → Calls Try.prog 19 #[.agg #[.int .i64 7, .int .i64 3, .slice (some ⟨w.heap.size + 1, 0, none⟩) 1 1], .int .i64 3, vf] W (fun e W' => e = .returned (.bool true) ∧ Below W.heap.size W W')) := Lib.hid fun W vf hb hf => by
    have h := covers_any aS.cast (.slice (some ⟨w.heap.size + 1, 0, none⟩) 1 1) 3 [2] vf W (HRN5.out.below (stays_list stays_Span 2) hb) ⟨by decide, by decide⟩ ⟨by decide, by decide⟩ hf
    rw [cov1] at h
    exact h
  have HV2 : Hid (∀ W vf, Below w5.heap.size w5 W → LArg RInt 1 vf [5] W → Calls Try.prog 19 #[.agg #[.int .i64 7, .int .i64 3, .slice (some ⟨w.heap.size + 1, 0, none⟩) 1 1], .int .i64 3, vf] W (fun e W' => e = .returned (.bool false) ∧ Below W.heap.size W W')) := Lib.hid fun W vf hb hf => by
    have h := covers_any aS.cast (.slice (some ⟨w.heap.size + 1, 0, none⟩) 1 1) 3 [5] vf W (HRN5.out.below (stays_list stays_Span 2) hb) ⟨by decide, by decide⟩ ⟨by decide, by decide⟩ hf
    rw [cov2] at h
    exact h
  have HV3 : Hid (∀ W vf, Below w5.heap.size w5 W → LArg RInt 1 vf [2] W → Calls Try.prog 19 #[.agg #[.int .i64 7, .int .i64 3, .slice (some ⟨w.heap.size + 1, 0, none⟩) 1 1], .int .i64 4, vf] W (fun e W' => e = .returned (.bool false) ∧ Below W.heap.size W W')) := Lib.hid fun W vf hb hf => by
    have h := covers_any aS.cast (.slice (some ⟨w.heap.size + 1, 0, none⟩) 1 1) 4 [2] vf W (HRN5.out.below (stays_list stays_Span 2) hb) ⟨by decide, by decide⟩ ⟨by decide, by decide⟩ hf
    rw [cov3] at h
    exact h
  have HRT : Hid (∀ (pb : Nat) W, Below w5.heap.size w5 W → Calls Try.prog 16 #[.agg #[.string ⟨#[]⟩, .slice none 0 0, .int .i64 0, .slice (some ⟨pb, 0, none⟩) 1 1, .slice none 0 0, .slice none 0 0, .slice none 0 0, .slice none 0 0, .slice none 0 0, .slice none 0 0, .int .i64 0], .agg #[.int .i64 7, .int .i64 3, .slice (some ⟨w.heap.size + 1, 0, none⟩) 1 1]] W (fun e W' => e = .returned (.bool true) ∧ Below W.heap.size W W')) := Lib.hid fun pb W hb => by
    have h := right_any 1 1 (some ⟨pb, 0, none⟩) aS.cast (.slice (some ⟨w.heap.size + 1, 0, none⟩) 1 1) W (HRN5.out.below (stays_list stays_Span 2) hb) (by decide)
    rw [rightS1] at h
    exact h
  have hmk := make_place
  go_upto_region 5 with fail
  refine wp_region_noPanic ?_
  refine wp_region_held_drew (S := fun w' => Below w5.heap.size w5 w') (by kernel_rfl) ((Below.refl _ _).drew) (fun hHeld => ?_)
  refine' wpAnyH_take (i := 0) (v := _) (by simp only [List.getElem?_toArray, List.getElem?_cons_zero]; exact rfl) (by kernel_rfl) (by kernel_rfl) (by kernel_rfl) (fun _ _ _ h => h) (Or.inl ⟨by rfl, ?y0x1⟩) hHeld ?r0x1
  case y0x1 => (intro w hSw; (try dsimp only at hSw); go_simp; try with_reducible rfl)
  try simp only [Act.put, List.setIfInBounds_toArray, List.set_cons_zero, List.set_cons_succ]
  refine wpAnyH_ready (rs := [1]) (by kernel_rfl) (by simp) ?_
  refine AllReadyH.cons (by simp only [List.getElem?_toArray, List.getElem?_cons_succ, List.getElem?_cons_zero]; exact rfl) (fun K hK => ?_) AllReadyH.nil
  go_simp
  refine (HD0.out _ hHeld).mono ?_
  rintro e w' ⟨a8, c8, rfl, hb⟩
  refine hK.out _ _ (hHeld.trans (hb.mono hHeld.size)) (fun hHeld => ?_)
  clear hK K hb
  try simp only [Act.put, List.setIfInBounds_toArray, List.set_cons_zero, List.set_cons_succ]
  refine' wpAnyH_take (i := 2) (v := _) (by simp only [List.getElem?_toArray, List.getElem?_cons_succ, List.getElem?_cons_zero]; exact rfl) (by kernel_rfl) (by kernel_rfl) (by kernel_rfl) (fun _ _ _ h => h) (Or.inl ⟨by rfl, ?y2x2⟩) hHeld ?r2x2
  case y2x2 => (intro w hSw; (try dsimp only at hSw); go_simp; try with_reducible rfl)
  try simp only [Act.put, List.setIfInBounds_toArray, List.set_cons_zero, List.set_cons_succ]
  refine' wpAnyH_take (i := 3) (v := _) (by simp only [List.getElem?_toArray, List.getElem?_cons_succ, List.getElem?_cons_zero]; exact rfl) (by kernel_rfl) (by kernel_rfl) (by kernel_rfl) (fun _ _ _ h => h) (Or.inl ⟨by rfl, ?y3x3⟩) hHeld ?r3x3
  case y3x3 => (intro w hSw; (try dsimp only at hSw); go_simp; try with_reducible rfl)
  try simp only [Act.put, List.setIfInBounds_toArray, List.set_cons_zero, List.set_cons_succ]
  refine' wpAnyH_take (i := 4) (v := _) (by simp only [List.getElem?_toArray, List.getElem?_cons_succ, List.getElem?_cons_zero]; exact rfl) (by kernel_rfl) (by kernel_rfl) (by kernel_rfl) (fun _ _ _ h => h) (Or.inl ⟨by rfl, ?y4x4⟩) hHeld ?r4x4
  case y4x4 => (intro w hSw; (try dsimp only at hSw); go_simp; try with_reducible rfl)
  try simp only [Act.put, List.setIfInBounds_toArray, List.set_cons_zero, List.set_cons_succ]
  refine' wpAnyH_take (i := 5) (v := _) (by simp only [List.getElem?_toArray, List.getElem?_cons_succ, List.getElem?_cons_zero]; exact rfl) (by kernel_rfl) (by kernel_rfl) (by kernel_rfl) (fun _ _ _ h => h) (Or.inl ⟨by rfl, ?y5x5⟩) hHeld ?r5x5
  case y5x5 => (intro w hSw; (try dsimp only at hSw); go_simp; try with_reducible rfl)
  try simp only [Act.put, List.setIfInBounds_toArray, List.set_cons_zero, List.set_cons_succ]
  refine' wpAnyH_take (i := 6) (v := _) (by simp only [List.getElem?_toArray, List.getElem?_cons_succ, List.getElem?_cons_zero]; exact rfl) (by kernel_rfl) (by kernel_rfl) (by kernel_rfl) (fun _ _ _ h => h) (Or.inl ⟨by rfl, ?y6x6⟩) hHeld ?r6x6
  case y6x6 => (intro w hSw; (try dsimp only at hSw); go_simp; try with_reducible rfl)
  try simp only [Act.put, List.setIfInBounds_toArray, List.set_cons_zero, List.set_cons_succ]
  refine' wpAnyH_take (i := 7) (v := _) (by simp only [List.getElem?_toArray, List.getElem?_cons_succ, List.getElem?_cons_zero]; exact rfl) (by kernel_rfl) (by kernel_rfl) (by kernel_rfl) (fun _ _ _ h => h) (Or.inl ⟨by rfl, ?y7x7⟩) hHeld ?r7x7
  case y7x7 => (intro w hSw; (try dsimp only at hSw); go_simp; try with_reducible rfl)
  try simp only [Act.put, List.setIfInBounds_toArray, List.set_cons_zero, List.set_cons_succ]
  refine' wpAnyH_take (i := 8) (v := _) (by simp only [List.getElem?_toArray, List.getElem?_cons_succ, List.getElem?_cons_zero]; exact rfl) (by kernel_rfl) (by kernel_rfl) (by kernel_rfl) (fun _ _ _ h => h) (Or.inl ⟨by rfl, ?y8x8⟩) hHeld ?r8x8
  case y8x8 => (intro w hSw; (try dsimp only at hSw); go_simp; try with_reducible rfl)
  try simp only [Act.put, List.setIfInBounds_toArray, List.set_cons_zero, List.set_cons_succ]
  refine' wpAnyH_take (i := 9) (v := _) (by simp only [List.getElem?_toArray, List.getElem?_cons_succ, List.getElem?_cons_zero]; exact rfl) (by kernel_rfl) (by kernel_rfl) (by kernel_rfl) (fun _ _ _ h => h) (Or.inl ⟨by rfl, ?y9x9⟩) hHeld ?r9x9
  case y9x9 => (intro w hSw; (try dsimp only at hSw); go_simp; try with_reducible rfl)
  try simp only [Act.put, List.setIfInBounds_toArray, List.set_cons_zero, List.set_cons_succ]
  refine' wpAnyH_take (i := 10) (v := _) (by simp only [List.getElem?_toArray, List.getElem?_cons_succ, List.getElem?_cons_zero]; exact rfl) (by kernel_rfl) (by kernel_rfl) (by kernel_rfl) (fun _ _ _ h => h) (Or.inl ⟨by rfl, ?y10x10⟩) hHeld ?r10x10
  case y10x10 => (intro w hSw; (try dsimp only at hSw); go_simp; try with_reducible rfl)
  try simp only [Act.put, List.setIfInBounds_toArray, List.set_cons_zero, List.set_cons_succ]
  refine' wpAnyH_take (i := 11) (v := _) (by simp only [List.getElem?_toArray, List.getElem?_cons_succ, List.getElem?_cons_zero]; exact rfl) (by kernel_rfl) (by kernel_rfl) (by kernel_rfl) (fun _ _ _ h => h) (Or.inl ⟨by rfl, ?y11x11⟩) hHeld ?r11x11
  case y11x11 => (intro w hSw; (try dsimp only at hSw); go_simp; try with_reducible rfl)
  try simp only [Act.put, List.setIfInBounds_toArray, List.set_cons_zero, List.set_cons_succ]
  refine' wpAnyH_take (i := 12) (v := _) (by simp only [List.getElem?_toArray, List.getElem?_cons_succ, List.getElem?_cons_zero]; exact rfl) (by kernel_rfl) (by kernel_rfl) (by kernel_rfl) (fun _ _ _ h => h) (Or.inl ⟨by rfl, ?y12x12⟩) hHeld ?r12x12
  case y12x12 => (intro w hSw; (try dsimp only at hSw); go_simp; try with_reducible rfl)
  try simp only [Act.put, List.setIfInBounds_toArray, List.set_cons_zero, List.set_cons_succ]
  refine' wpAnyH_take (i := 13) (v := _) (by simp only [List.getElem?_toArray, List.getElem?_cons_succ, List.getElem?_cons_zero]; exact rfl) (by kernel_rfl) (by kernel_rfl) (by kernel_rfl) (fun _ _ _ h => h) (Or.inl ⟨by rfl, ?y13x13⟩) hHeld ?r13x13
  case y13x13 => (intro wz hSw; have hc := (hSw.cell HGL.out).trans HC7.out; go_simp; try with_reducible rfl)
  try simp only [Act.put, List.setIfInBounds_toArray, List.set_cons_zero, List.set_cons_succ]
  refine' wpAnyH_take (i := 14) (v := _) (by simp only [List.getElem?_toArray, List.getElem?_cons_succ, List.getElem?_cons_zero]; exact rfl) (by kernel_rfl) (by kernel_rfl) (by kernel_rfl) (fun _ _ _ h => h) (Or.inl ⟨by rfl, ?y14x14⟩) hHeld ?r14x14
  case y14x14 => (intro w hSw; (try dsimp only at hSw); go_simp; try with_reducible rfl)
  try simp only [Act.put, List.setIfInBounds_toArray, List.set_cons_zero, List.set_cons_succ]
  refine' wpAnyH_take (i := 15) (v := _) (by simp only [List.getElem?_toArray, List.getElem?_cons_succ, List.getElem?_cons_zero]; exact rfl) (by kernel_rfl) (by kernel_rfl) (by kernel_rfl) (fun _ _ _ h => h) (Or.inl ⟨by rfl, ?y15x15⟩) hHeld ?r15x15
  case y15x15 => (intro w hSw; (try dsimp only at hSw); go_simp; try with_reducible rfl)
  try simp only [Act.put, List.setIfInBounds_toArray, List.set_cons_zero, List.set_cons_succ]
  refine' wpAnyH_take (i := 16) (v := _) (by simp only [List.getElem?_toArray, List.getElem?_cons_succ, List.getElem?_cons_zero]; exact rfl) (by kernel_rfl) (by kernel_rfl) (by kernel_rfl) (fun _ _ _ h => h) (Or.inl ⟨by rfl, ?y16x16⟩) hHeld ?r16x16
  case y16x16 => (intro w hSw; (try dsimp only at hSw); go_simp; try with_reducible rfl)
  try simp only [Act.put, List.setIfInBounds_toArray, List.set_cons_zero, List.set_cons_succ]
  refine' wpAnyH_take (i := 17) (v := _) (by simp only [List.getElem?_toArray, List.getElem?_cons_succ, List.getElem?_cons_zero]; exact rfl) (by kernel_rfl) (by kernel_rfl) (by kernel_rfl) (fun _ _ _ h => h) (Or.inl ⟨by rfl, ?y17x17⟩) hHeld ?r17x17
  case y17x17 => (intro w hSw; (try dsimp only at hSw); go_simp; try with_reducible rfl)
  try simp only [Act.put, List.setIfInBounds_toArray, List.set_cons_zero, List.set_cons_succ]
  refine wpAnyH_ready (rs := [18]) (by kernel_rfl) (by simp) ?_
  refine AllReadyH.cons (by simp only [List.getElem?_toArray, List.getElem?_cons_succ, List.getElem?_cons_zero]; exact rfl) (fun K hK => ?_) AllReadyH.nil
  go_simp
  refine (HD5.out _ hHeld).mono ?_
  rintro e w' ⟨a9, c9, rfl, hb⟩
  refine hK.out _ _ (hHeld.trans (hb.mono hHeld.size)) (fun hHeld => ?_)
  clear hK K hb
  try simp only [Act.put, List.setIfInBounds_toArray, List.set_cons_zero, List.set_cons_succ]
  refine' wpAnyH_take (i := 19) (v := _) (by simp only [List.getElem?_toArray, List.getElem?_cons_succ, List.getElem?_cons_zero]; exact rfl) (by kernel_rfl) (by kernel_rfl) (by kernel_rfl) (fun _ _ _ h => h) (Or.inl ⟨by rfl, ?y19x18⟩) hHeld ?r19x18
  case y19x18 => (intro w hSw; (try dsimp only at hSw); go_simp; try with_reducible rfl)
  try simp only [Act.put, List.setIfInBounds_toArray, List.set_cons_zero, List.set_cons_succ]
  refine' wpAnyH_take (i := 20) (v := _) (by simp only [List.getElem?_toArray, List.getElem?_cons_succ, List.getElem?_cons_zero]; exact rfl) (by kernel_rfl) (by kernel_rfl) (by kernel_rfl) (fun _ _ _ h => h) (Or.inl ⟨by rfl, ?y20x19⟩) hHeld ?r20x19
  case y20x19 => (intro w hSw; (try dsimp only at hSw); go_simp; try with_reducible rfl)
  try simp only [Act.put, List.setIfInBounds_toArray, List.set_cons_zero, List.set_cons_succ]
  refine' wpAnyH_take (i := 21) (v := _) (by simp only [List.getElem?_toArray, List.getElem?_cons_succ, List.getElem?_cons_zero]; exact rfl) (by kernel_rfl) (by kernel_rfl) (by kernel_rfl) (fun _ _ _ h => h) (Or.inl ⟨by rfl, ?y21x20⟩) hHeld ?r21x20
  case y21x20 => (intro w hSw; (try dsimp only at hSw); go_simp; try with_reducible rfl)
  try simp only [Act.put, List.setIfInBounds_toArray, List.set_cons_zero, List.set_cons_succ]
  refine' wpAnyH_take (i := 22) (v := _) (by simp only [List.getElem?_toArray, List.getElem?_cons_succ, List.getElem?_cons_zero]; exact rfl) (by kernel_rfl) (by kernel_rfl) (by kernel_rfl) (fun _ _ _ h => h) (Or.inl ⟨by rfl, ?y22x21⟩) hHeld ?r22x21
  case y22x21 => (intro w hSw; (try dsimp only at hSw); go_simp; try with_reducible rfl)
  try simp only [Act.put, List.setIfInBounds_toArray, List.set_cons_zero, List.set_cons_succ]
  refine' wpAnyH_take (i := 23) (v := _) (by simp only [List.getElem?_toArray, List.getElem?_cons_succ, List.getElem?_cons_zero]; exact rfl) (by kernel_rfl) (by kernel_rfl) (by kernel_rfl) (fun _ _ _ h => h) (Or.inl ⟨by rfl, ?y23x22⟩) hHeld ?r23x22
  case y23x22 => (intro w hSw; (try dsimp only at hSw); go_simp; try with_reducible rfl)
  try simp only [Act.put, List.setIfInBounds_toArray, List.set_cons_zero, List.set_cons_succ]
  refine' wpAnyH_take (i := 24) (v := _) (by simp only [List.getElem?_toArray, List.getElem?_cons_succ, List.getElem?_cons_zero]; exact rfl) (by kernel_rfl) (by kernel_rfl) (by kernel_rfl) (fun _ _ _ h => h) (Or.inl ⟨by rfl, ?y24x23⟩) hHeld ?r24x23
  case y24x23 => (intro wz hSw; refine exec_load_range 27 ?_ ?_ _ _ ?_ _ _ (range3 (rowN (blk_below HA.out hSw (blk_lt HA.out)) 2 (.int .i64 7) rfl) (rowN (blk_below HA.out hSw (blk_lt HA.out)) 3 (.int .i64 3) rfl) (rowN (blk_below HA.out hSw (blk_lt HA.out)) 4 (.slice (some ⟨w.heap.size + 1, 0, none⟩) 1 1) rfl)) undKs rfl infoKs; rotate_left 1; exact rfl; exact rfl)
  try simp only [Act.put, List.setIfInBounds_toArray, List.set_cons_zero, List.set_cons_succ]
  have hnI := Lib.hid (larg_one (heap_alloc_new w' (.cells #[.int .i64 2] 3)) (show I64 2 by unfold I64; omega))
  refine wpAnyH_ready (rs := [25]) (by kernel_rfl) (by simp) ?_
  refine AllReadyH.cons (by simp only [List.getElem?_toArray, List.getElem?_cons_succ, List.getElem?_cons_zero]; exact rfl) (fun K hK => ?_) AllReadyH.nil
  go_simp
  refine hK.out _ _ (hHeld.alloc hHeld.size (.cells #[.int .i64 2] 3)) (fun hHeld => ?_)
  clear hK K
  try simp only [Act.put, List.setIfInBounds_toArray, List.set_cons_zero, List.set_cons_succ]
  refine wpAnyH_ready (rs := [26]) (by kernel_rfl) (by simp) ?_
  refine AllReadyH.cons (by simp only [List.getElem?_toArray, List.getElem?_cons_succ, List.getElem?_cons_zero]; exact rfl) (fun K hK => ?_) AllReadyH.nil
  go_simp
  refine (HV1.out _ _ hHeld hnI.out).mono ?_
  rintro e w' ⟨rfl, hb⟩
  refine hK.out _ _ (hHeld.trans (hb.mono hHeld.size)) (fun hHeld => ?_)
  clear hK K hb
  try simp only [Act.put, List.setIfInBounds_toArray, List.set_cons_zero, List.set_cons_succ]
  refine' wpAnyH_take (i := 27) (v := _) (by simp only [List.getElem?_toArray, List.getElem?_cons_succ, List.getElem?_cons_zero]; exact rfl) (by kernel_rfl) (by kernel_rfl) (by kernel_rfl) (fun _ _ _ h => h) (Or.inl ⟨by rfl, ?y27x24⟩) hHeld ?r27x24
  case y27x24 => (intro w hSw; (try dsimp only at hSw); go_simp; try with_reducible rfl)
  try simp only [Act.put, List.setIfInBounds_toArray, List.set_cons_zero, List.set_cons_succ]
  refine' wpAnyH_take (i := 28) (v := _) (by simp only [List.getElem?_toArray, List.getElem?_cons_succ, List.getElem?_cons_zero]; exact rfl) (by kernel_rfl) (by kernel_rfl) (by kernel_rfl) (fun _ _ _ h => h) (Or.inl ⟨by rfl, ?y28x25⟩) hHeld ?r28x25
  case y28x25 => (intro w hSw; (try dsimp only at hSw); go_simp; try with_reducible rfl)
  try simp only [Act.put, List.setIfInBounds_toArray, List.set_cons_zero, List.set_cons_succ]
  refine' wpAnyH_take (i := 29) (v := _) (by simp only [List.getElem?_toArray, List.getElem?_cons_succ, List.getElem?_cons_zero]; exact rfl) (by kernel_rfl) (by kernel_rfl) (by kernel_rfl) (fun _ _ _ h => h) (Or.inl ⟨by rfl, ?y29x26⟩) hHeld ?r29x26
  case y29x26 => (intro w hSw; (try dsimp only at hSw); go_simp; try with_reducible rfl)
  try simp only [Act.put, List.setIfInBounds_toArray, List.set_cons_zero, List.set_cons_succ]
  refine' wpAnyH_take (i := 30) (v := _) (by simp only [List.getElem?_toArray, List.getElem?_cons_succ, List.getElem?_cons_zero]; exact rfl) (by kernel_rfl) (by kernel_rfl) (by kernel_rfl) (fun _ _ _ h => h) (Or.inl ⟨by rfl, ?y30x27⟩) hHeld ?r30x27
  case y30x27 => (intro wz hSw; refine exec_load_range 27 ?_ ?_ _ _ ?_ _ _ (range3 (rowN (blk_below HA.out hSw (blk_lt HA.out)) 2 (.int .i64 7) rfl) (rowN (blk_below HA.out hSw (blk_lt HA.out)) 3 (.int .i64 3) rfl) (rowN (blk_below HA.out hSw (blk_lt HA.out)) 4 (.slice (some ⟨w.heap.size + 1, 0, none⟩) 1 1) rfl)) undKs rfl infoKs; rotate_left 1; exact rfl; exact rfl)
  try simp only [Act.put, List.setIfInBounds_toArray, List.set_cons_zero, List.set_cons_succ]
  have hnI := Lib.hid (larg_one (heap_alloc_new w' (.cells #[.int .i64 5] 3)) (show I64 5 by unfold I64; omega))
  refine wpAnyH_ready (rs := [31]) (by kernel_rfl) (by simp) ?_
  refine AllReadyH.cons (by simp only [List.getElem?_toArray, List.getElem?_cons_succ, List.getElem?_cons_zero]; exact rfl) (fun K hK => ?_) AllReadyH.nil
  go_simp
  refine hK.out _ _ (hHeld.alloc hHeld.size (.cells #[.int .i64 5] 3)) (fun hHeld => ?_)
  clear hK K
  try simp only [Act.put, List.setIfInBounds_toArray, List.set_cons_zero, List.set_cons_succ]
  refine wpAnyH_ready (rs := [32]) (by kernel_rfl) (by simp) ?_
  refine AllReadyH.cons (by simp only [List.getElem?_toArray, List.getElem?_cons_succ, List.getElem?_cons_zero]; exact rfl) (fun K hK => ?_) AllReadyH.nil
  go_simp
  refine (HV2.out _ _ hHeld hnI.out).mono ?_
  rintro e w' ⟨rfl, hb⟩
  refine hK.out _ _ (hHeld.trans (hb.mono hHeld.size)) (fun hHeld => ?_)
  clear hK K hb
  try simp only [Act.put, List.setIfInBounds_toArray, List.set_cons_zero, List.set_cons_succ]
  refine' wpAnyH_take (i := 33) (v := _) (by simp only [List.getElem?_toArray, List.getElem?_cons_succ, List.getElem?_cons_zero]; exact rfl) (by kernel_rfl) (by kernel_rfl) (by kernel_rfl) (fun _ _ _ h => h) (Or.inl ⟨by rfl, ?y33x28⟩) hHeld ?r33x28
  case y33x28 => (intro w hSw; (try dsimp only at hSw); go_simp; try with_reducible rfl)
  try simp only [Act.put, List.setIfInBounds_toArray, List.set_cons_zero, List.set_cons_succ]
  refine' wpAnyH_take (i := 34) (v := _) (by simp only [List.getElem?_toArray, List.getElem?_cons_succ, List.getElem?_cons_zero]; exact rfl) (by kernel_rfl) (by kernel_rfl) (by kernel_rfl) (fun _ _ _ h => h) (Or.inl ⟨by rfl, ?y34x29⟩) hHeld ?r34x29
  case y34x29 => (intro w hSw; (try dsimp only at hSw); go_simp; try with_reducible rfl)
  try simp only [Act.put, List.setIfInBounds_toArray, List.set_cons_zero, List.set_cons_succ]
  refine' wpAnyH_take (i := 35) (v := _) (by simp only [List.getElem?_toArray, List.getElem?_cons_succ, List.getElem?_cons_zero]; exact rfl) (by kernel_rfl) (by kernel_rfl) (by kernel_rfl) (fun _ _ _ h => h) (Or.inl ⟨by rfl, ?y35x30⟩) hHeld ?r35x30
  case y35x30 => (intro w hSw; (try dsimp only at hSw); go_simp; try with_reducible rfl)
  try simp only [Act.put, List.setIfInBounds_toArray, List.set_cons_zero, List.set_cons_succ]
  refine' wpAnyH_take (i := 36) (v := _) (by simp only [List.getElem?_toArray, List.getElem?_cons_succ, List.getElem?_cons_zero]; exact rfl) (by kernel_rfl) (by kernel_rfl) (by kernel_rfl) (fun _ _ _ h => h) (Or.inl ⟨by rfl, ?y36x31⟩) hHeld ?r36x31
  case y36x31 => (intro w hSw; (try dsimp only at hSw); go_simp; try with_reducible rfl)
  try simp only [Act.put, List.setIfInBounds_toArray, List.set_cons_zero, List.set_cons_succ]
  refine' wpAnyH_take (i := 37) (v := _) (by simp only [List.getElem?_toArray, List.getElem?_cons_succ, List.getElem?_cons_zero]; exact rfl) (by kernel_rfl) (by kernel_rfl) (by kernel_rfl) (fun _ _ _ h => h) (Or.inl ⟨by rfl, ?y37x32⟩) hHeld ?r37x32
  case y37x32 => (intro wz hSw; refine exec_load_range 27 ?_ ?_ _ _ ?_ _ _ (range3 (rowN (blk_below HA.out hSw (blk_lt HA.out)) 2 (.int .i64 7) rfl) (rowN (blk_below HA.out hSw (blk_lt HA.out)) 3 (.int .i64 3) rfl) (rowN (blk_below HA.out hSw (blk_lt HA.out)) 4 (.slice (some ⟨w.heap.size + 1, 0, none⟩) 1 1) rfl)) undKs rfl infoKs; rotate_left 1; exact rfl; exact rfl)
  try simp only [Act.put, List.setIfInBounds_toArray, List.set_cons_zero, List.set_cons_succ]
  have hnI := Lib.hid (larg_one (heap_alloc_new w' (.cells #[.int .i64 2] 3)) (show I64 2 by unfold I64; omega))
  refine wpAnyH_ready (rs := [38]) (by kernel_rfl) (by simp) ?_
  refine AllReadyH.cons (by simp only [List.getElem?_toArray, List.getElem?_cons_succ, List.getElem?_cons_zero]; exact rfl) (fun K hK => ?_) AllReadyH.nil
  go_simp
  refine hK.out _ _ (hHeld.alloc hHeld.size (.cells #[.int .i64 2] 3)) (fun hHeld => ?_)
  clear hK K
  try simp only [Act.put, List.setIfInBounds_toArray, List.set_cons_zero, List.set_cons_succ]
  refine wpAnyH_ready (rs := [39]) (by kernel_rfl) (by simp) ?_
  refine AllReadyH.cons (by simp only [List.getElem?_toArray, List.getElem?_cons_succ, List.getElem?_cons_zero]; exact rfl) (fun K hK => ?_) AllReadyH.nil
  go_simp
  refine (HV3.out _ _ hHeld hnI.out).mono ?_
  rintro e w' ⟨rfl, hb⟩
  refine hK.out _ _ (hHeld.trans (hb.mono hHeld.size)) (fun hHeld => ?_)
  clear hK K hb
  try simp only [Act.put, List.setIfInBounds_toArray, List.set_cons_zero, List.set_cons_succ]
  refine' wpAnyH_take (i := 40) (v := _) (by simp only [List.getElem?_toArray, List.getElem?_cons_succ, List.getElem?_cons_zero]; exact rfl) (by kernel_rfl) (by kernel_rfl) (by kernel_rfl) (fun _ _ _ h => h) (Or.inl ⟨by rfl, ?y40x33⟩) hHeld ?r40x33
  case y40x33 => (intro w hSw; (try dsimp only at hSw); go_simp; try with_reducible rfl)
  try simp only [Act.put, List.setIfInBounds_toArray, List.set_cons_zero, List.set_cons_succ]
  refine' wpAnyH_take (i := 41) (v := _) (by simp only [List.getElem?_toArray, List.getElem?_cons_succ, List.getElem?_cons_zero]; exact rfl) (by kernel_rfl) (by kernel_rfl) (by kernel_rfl) (fun _ _ _ h => h) (Or.inl ⟨by rfl, ?y41x34⟩) hHeld ?r41x34
  case y41x34 => (intro w hSw; (try dsimp only at hSw); go_simp; try with_reducible rfl)
  try simp only [Act.put, List.setIfInBounds_toArray, List.set_cons_zero, List.set_cons_succ]
  refine' wpAnyH_take (i := 42) (v := _) (by simp only [List.getElem?_toArray, List.getElem?_cons_succ, List.getElem?_cons_zero]; exact rfl) (by kernel_rfl) (by kernel_rfl) (by kernel_rfl) (fun _ _ _ h => h) (Or.inl ⟨by rfl, ?y42x35⟩) hHeld ?r42x35
  case y42x35 => (intro w hSw; (try dsimp only at hSw); go_simp; try with_reducible rfl)
  try simp only [Act.put, List.setIfInBounds_toArray, List.set_cons_zero, List.set_cons_succ]
  refine' wpAnyH_take (i := 45) (v := _) (by simp only [List.getElem?_toArray, List.getElem?_cons_succ, List.getElem?_cons_zero]; exact rfl) (by kernel_rfl) (by kernel_rfl) (by kernel_rfl) (fun _ _ _ h => h) (Or.inl ⟨by rfl, ?y45x36⟩) hHeld ?r45x36
  case y45x36 => (intro w hSw; (try dsimp only at hSw); go_simp; try with_reducible rfl)
  try simp only [Act.put, List.setIfInBounds_toArray, List.set_cons_zero, List.set_cons_succ]
  refine' wpAnyH_take (i := 46) (v := _) (by simp only [List.getElem?_toArray, List.getElem?_cons_succ, List.getElem?_cons_zero]; exact rfl) (by kernel_rfl) (by kernel_rfl) (by kernel_rfl) (fun _ _ _ h => h) (Or.inl ⟨by rfl, ?y46x37⟩) hHeld ?r46x37
  case y46x37 => (intro wz hSw; refine exec_load_range 27 ?_ ?_ _ _ ?_ _ _ (range3 (rowN (blk_below HA.out hSw (blk_lt HA.out)) 2 (.int .i64 7) rfl) (rowN (blk_below HA.out hSw (blk_lt HA.out)) 3 (.int .i64 3) rfl) (rowN (blk_below HA.out hSw (blk_lt HA.out)) 4 (.slice (some ⟨w.heap.size + 1, 0, none⟩) 1 1) rfl)) undKs rfl infoKs; rotate_left 1; exact rfl; exact rfl)
  try simp only [Act.put, List.setIfInBounds_toArray, List.set_cons_zero, List.set_cons_succ]
  refine wpAnyH_ready (rs := [43]) (by kernel_rfl) (by simp) ?_
  refine AllReadyH.cons (by simp only [List.getElem?_toArray, List.getElem?_cons_succ, List.getElem?_cons_zero]; exact rfl) (fun K hK => ?_) AllReadyH.nil
  go_simp
  refine hK.out _ _ (hHeld.alloc hHeld.size (.cells #[.string ⟨#[]⟩, .int .i64 0, .int .i64 0, .int .i64 0, .slice none 0 0, .slice none 0 0, .int .i64 0, .int .i64 0, .int .i64 0, .int .i64 0, .int .i64 0, .slice none 0 0] 145)) (fun hHeld => ?_)
  clear hK K
  try simp only [Act.put, List.setIfInBounds_toArray, List.set_cons_zero, List.set_cons_succ]
  refine' wpAnyH_take (i := 44) (v := _) (by simp only [List.getElem?_toArray, List.getElem?_cons_succ, List.getElem?_cons_zero]; exact rfl) (by kernel_rfl) (by kernel_rfl) (by kernel_rfl) (fun _ _ _ h => h) (Or.inl ⟨by rfl, ?y44x38⟩) hHeld ?r44x38
  case y44x38 => (intro w hSw; (try dsimp only at hSw); go_simp; try with_reducible rfl)
  try simp only [Act.put, List.setIfInBounds_toArray, List.set_cons_zero, List.set_cons_succ]
  refine wpAnyH_ready (rs := [47]) (by kernel_rfl) (by simp) ?_
  refine AllReadyH.cons (by simp only [List.getElem?_toArray, List.getElem?_cons_succ, List.getElem?_cons_zero]; exact rfl) (fun K hK => ?_) AllReadyH.nil
  go_simp
  refine (HRT.out _ _ hHeld).mono ?_
  rintro e w' ⟨rfl, hb⟩
  refine hK.out _ _ (hHeld.trans (hb.mono hHeld.size)) (fun hHeld => ?_)
  clear hK K hb
  try simp only [Act.put, List.setIfInBounds_toArray, List.set_cons_zero, List.set_cons_succ]
  refine' wpAnyH_take (i := 48) (v := _) (by simp only [List.getElem?_toArray, List.getElem?_cons_succ, List.getElem?_cons_zero]; exact rfl) (by kernel_rfl) (by kernel_rfl) (by kernel_rfl) (fun _ _ _ h => h) (Or.inl ⟨by rfl, ?y48x39⟩) hHeld ?r48x39
  case y48x39 => (intro w hSw; (try dsimp only at hSw); go_simp; try with_reducible rfl)
  try simp only [Act.put, List.setIfInBounds_toArray, List.set_cons_zero, List.set_cons_succ]
  refine' wpAnyH_take (i := 49) (v := _) (by simp only [List.getElem?_toArray, List.getElem?_cons_succ, List.getElem?_cons_zero]; exact rfl) (by kernel_rfl) (by kernel_rfl) (by kernel_rfl) (fun _ _ _ h => h) (Or.inl ⟨by rfl, ?y49x40⟩) hHeld ?r49x40
  case y49x40 => (intro w hSw; (try dsimp only at hSw); go_simp; try with_reducible rfl)
  try simp only [Act.put, List.setIfInBounds_toArray, List.set_cons_zero]
  refine wpAnyH_done (by kernel_rfl) ?_ _
  refine NoPanic.normal ?_
  have HBF := Lib.hid (HB5.out.trans (hHeld.mono HB5.out.size))
  go_wp2_with fail
  go_ret
  exact ⟨rfl, HBF.out⟩
end Go.Proofs.Ytleiiedacachjaa
