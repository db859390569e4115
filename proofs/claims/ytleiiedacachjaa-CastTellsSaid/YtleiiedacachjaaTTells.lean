/- bournelaw29.CastTells returns true. -/
import Derived.Test.YtleiiedacachjaaKRefD
import Derived.Test.YtleiiedacachjaaKRefH
import Derived.Test.YtleiiedacachjaaKCovers
namespace Go.Proofs.Ytleiiedacachjaa
open Go.RowKit
/-- what At gives, in range or not -/
def atP (x : CastV) (h pl : Int) : List SpanV := if 1 ≤ pl ∧ pl ≤ 64 then atL x h pl.toNat else []
theorem atP_len (x : CastV) (h pl : Int) : (atP x h pl).length ≤ 1000 := by
  unfold atP
  split
  · rw [atL_len]; omega
  · simp
theorem larg_row2 {b : Nat} {w : World} {l : List SpanV} (h : w.heap[b]? = some (.cells (spV l).toArray 54 (0, 0))) (hl : l.length ≤ 1000) (hI : SpanI l) : LArg RSpan 2 (.slice (some ⟨b, 0, none⟩) l.length l.length) l w :=
  ⟨_, _, rfl, Nat.le_refl _, by unfold maxLen; omega, fun i s hs => ⟨b, 0, [.int .i64 s.lo, .int .i64 s.hi], rfl, blk_lt h, rfl, by rw [Nat.zero_add]; exact range_sp h hs, rfl, (hI s (List.mem_of_getElem? hs)).1, (hI s (List.mem_of_getElem? hs)).2⟩⟩
theorem larg_nil (w : World) : LArg RSpan 2 (.slice none 0 0) [] w := ⟨none, 0, rfl, Nat.le_refl _, Nat.zero_le _, fun i s hs => by simp at hs⟩
theorem catl_any (x : CastV) (v0 : Value) (h pl : Int) (w : World) (hr : LArg (RList RSpan 2) 1 v0 x.rain w) (hh : I64 h) (hs : I64 x.src) (hI : ∀ r ∈ x.rain, SpanI r) :
    Calls Try.prog 17 #[.agg #[.int .i64 x.id, .int .i64 x.src, v0], .int .i64 h, .int .i64 pl] w fun e w' => ∃ v, e = .returned v ∧ LArg RSpan 2 v (atP x h pl) w' ∧ Below w.heap.size w w' := by
  unfold atP
  by_cases hp : 1 ≤ pl ∧ pl ≤ 64
  · rw [if_pos hp]
    obtain ⟨n, rfl⟩ : ∃ n : Nat, pl = (n : Int) := ⟨pl.toNat, by omega⟩
    refine (at_any x v0 h n w hr hh hs (by omega) (by omega)).mono ?_
    rintro e w' ⟨b, rfl, -, hrow, hb⟩
    rw [Int.toNat_natCast]
    exact ⟨_, rfl, larg_row2 hrow (by rw [atL_len]; omega) (atL_I hI), hb⟩
  · rw [if_neg hp]
    refine (at_out x v0 h pl w (by omega)).mono ?_
    rintro e w' ⟨rfl, hb⟩
    exact ⟨_, rfl, larg_nil _, hb⟩
theorem ratl_any (x : CastV) (v0 : Value) (h pl : Int) (w : World) (hr : LArg (RList RSpan 2) 1 v0 x.rain w) (hh : I64 h) (hs : I64 x.src) (hI : ∀ r ∈ x.rain, SpanI r) :
    Calls Try.prog 26 #[.agg #[.int .i64 x.id, .int .i64 x.src, v0], .int .i64 h, .int .i64 pl] w fun e w' => ∃ v, e = .returned v ∧ LArg RSpan 2 v (atP x h pl) w' ∧ Below w.heap.size w w' := by
  unfold atP
  by_cases hp : 1 ≤ pl ∧ pl ≤ 64
  · rw [if_pos hp]
    obtain ⟨n, rfl⟩ : ∃ n : Nat, pl = (n : Int) := ⟨pl.toNat, by omega⟩
    refine (rat_own x v0 h n w hr hh hs (by omega) (by omega)).mono ?_
    rintro e w' ⟨v, rfl, hown, hb⟩
    rw [Int.toNat_natCast]
    exact ⟨_, rfl, larg_spans hown (atL_len x h n) (atL_I hI), hb⟩
  · rw [if_neg hp]
    refine (rat_out x v0 h pl w (by omega)).mono ?_
    rintro e w' ⟨rfl, hb⟩
    exact ⟨_, rfl, larg_nil _, hb⟩
/-- two sorted orders of the same news have the same keys -/
theorem keys_eq {a b : List CodE} (ha : a.Pairwise KeyLe) (hb : b.Pairwise KeyLe) (hp : a.Perm b) : a.map (fun q => newsB q.x) = b.map (fun q => newsB q.x) := by
  refine List.Perm.eq_of_pairwise (le := fun x y : List UInt8 => x ≤ y) (fun x y _ _ h1 h2 => List.le_antisymm h1 h2) ?_ ?_ (hp.map _)
  · rw [List.pairwise_map]
    exact ha.imp (fun {p q} h => by unfold KeyLe at h; rw [List.not_lt] at h; exact h)
  · rw [List.pairwise_map]
    exact hb.imp (fun {p q} h => by unfold KeyLe at h; rw [List.not_lt] at h; exact h)
set_option maxRecDepth 100000 in
set_option maxHeartbeats 16000000 in
theorem tells_core (L : List CodE) (a : Option Addr) (c : Nat) (h pl : Int) (fl : List Int) (vf : Value) (w : World)
    (hat : ∀ (i : Nat) (q : CodE), L[i]? = some q → ∃ b o, a = some ⟨b, o, none⟩ ∧ b < w.heap.size ∧ w.rangeAt b (o + i * 5) (cellsQ q))
    (hr : ∀ q ∈ L, LArg (RList RSpan 2) 1 (.slice q.a q.x.cast.rain.length q.c) q.x.cast.rain w) (hI : ∀ q ∈ L, NewsI q.x) (hm : L.length ≤ 9223372036854775807) (hh : I64 h) (hfl : LArg RInt 1 vf fl w) :
    Calls Try.prog 8 #[.slice a L.length c, .int .i64 h, .int .i64 pl, vf] w fun e w' => e = .returned (.bool true) ∧ Below w.heap.size w w' := by
  obtain ⟨af, qf, rfl, -, hqm⟩ := hfl.slice
  have HNS := Lib.hid (newsS_cod hat hr)
  have HAT := Lib.hid hat
  have HR := Lib.hid hr
  have HI := Lib.hid hI
  have HFL := Lib.hid hfl
  have HXI : Hid (∀ y ∈ L.map (·.x), NewsI y) := Lib.hid (fun y hy => by
    obtain ⟨q, hq, rfl⟩ := List.mem_map.1 hy
    exact hI q hq)
  clear hat hr hI hfl
  go_enter Try.func8, Try.ntmps8
  go_wp2_with fail
  refine (small_any _).mono ?_
  rintro e w1 ⟨rfl, hb⟩
  have HB1 := Lib.hid hb
  clear hb
  have hfew := few_any (L.map (·.x)) (L.map (·.u)) a c w1 (HNS.out.below HB1.out) (by rw [List.length_map]; exact hm)
  rw [List.length_map] at hfew
  have HFW := Lib.hid hfew
  clear hfew
  go_wp2_with fail
  refine HFW.out.mono ?_
  rintro e w2 ⟨rfl, hb⟩
  have HB2 := Lib.hid (HB1.out.trans (hb.mono HB1.out.size))
  clear hb HB1 HFW
  cases hF : fewB (L.map (·.x))
  · go_wp2_with fail
    go_ret
    exact ⟨rfl, HB2.out⟩
  have hFI := fewB_iff.1 hF
  have hl40 : L.length ≤ 40 := by have := hFI.1; rw [List.length_map] at this; exact this
  have HFE := Lib.hid hFI.2
  have HFQ : Hid (∀ q ∈ L, FewN q.x) := Lib.hid (fun q hq => HFE.out q.x (List.mem_map_of_mem hq))
  clear hF hFI
  by_cases t80 : (80 : Int) < (fl.length : Int)
  · go_wp2_with fail
    go_ret
    exact ⟨rfl, HB2.out⟩
  have HOR := Lib.hid (order_core L a c w2 (fun i q hq => by
    obtain ⟨b, o, h1, h2, h3⟩ := HAT.out i q hq
    exact ⟨b, o, h1, Nat.lt_of_lt_of_le h2 HB2.out.size, range_below h3 HB2.out h2⟩) (fun q hq => (HR.out q hq).below (stays_list stays_Span 2) HB2.out) HI.out HFQ.out hl40)
  go_wp2_with fail
  refine HOR.out.mono ?_
  rintro e w3 ⟨o1, v1, rfl, hp1, hk1, hown1, hb⟩
  obtain ⟨a1, c1, rfl, hao1⟩ := ownsQ_at hown1
  have HP1 := Lib.hid hp1
  have HK1 := Lib.hid hk1
  have HA1 := Lib.hid hao1
  have hl1 : o1.length = L.length := hp1.length_eq
  have HL1 := Lib.hid hl1
  have HB3 := Lib.hid (HB2.out.trans (hb.mono HB2.out.size))
  clear hp1 hk1 hown1 hao1 hb HOR t80
  have HOR := Lib.hid (rorder_any L a c w3 (fun i q hq => by
    obtain ⟨b, o, h1, h2, h3⟩ := HAT.out i q hq
    exact ⟨b, o, h1, Nat.lt_of_lt_of_le h2 HB3.out.size, range_below h3 HB3.out h2⟩) (fun q hq => (HR.out q hq).below (stays_list stays_Span 2) HB3.out) HI.out HFQ.out hl40)
  rw [hl1]
  clear hl1
  go_wp2_with fail
  refine HOR.out.mono ?_
  rintro e w4 ⟨o2, v2, rfl, hp2, hk2, hown2, hb⟩
  obtain ⟨a2, c2, rfl, hao2⟩ := ownsQ_at hown2
  have HP2 := Lib.hid hp2
  have HK2 := Lib.hid hk2
  have HL2 := Lib.hid hp2.length_eq
  have HKE := Lib.hid (keys_eq HK1.out hk2 (HP1.out.trans hp2.symm))
  have HB4 := Lib.hid (HB3.out.trans (hb.mono HB3.out.size))
  have HA2 := Lib.hid hao2
  have HA1w : Hid (∀ (i : Nat) (q : CodE), o1[i]? = some q → ∃ g, a1 = some ⟨g, 0, none⟩ ∧ g < w4.heap.size ∧ w4.rangeAt g (i * 5) (cellsQ q)) := Lib.hid (fun i q hq => by
    obtain ⟨g, h1, h2, h3, h4⟩ := HA1.out i q hq
    rw [Nat.zero_add] at h4
    exact ⟨g, h1, Nat.lt_of_lt_of_le h3 hb.size, range_below h4 hb h3⟩)
  rw [HL2.out]
  clear hp2 hk2 hown2 hao2 hb HOR HA1
  obtain ⟨np, hnp⟩ : ∃ np : Nat, clampN pl 0 64 = (np : Int) := ⟨(clampN pl 0 64).toNat, by have := clampN_in (n := pl) (lo := 0) (hi := 64) (by decide); omega⟩
  have hnp64 : np ≤ 64 := by have := (clampN_in (n := pl) (lo := 0) (hi := 64) (by decide)).2; omega
  have HCL : Hid (∀ W, Calls Try.prog 18 #[.int .i64 pl, .int .i64 0, .int .i64 64] W fun e w' => e = .returned (.int .i64 (np : Int)) ∧ W = w') := Lib.hid (fun W => by rw [← hnp]; exact clamp_any pl 0 64 W)
  obtain ⟨pcs, hmk⟩ := make_places np w4 (by omega)
  clear hnp
  go_upto_region 10 with (refine (HCL.out _).mono ?_; rintro e w' ⟨rfl, rfl⟩)
  obtain ⟨r0, r1, rb⟩ := two_rowsK (w := w4) (A := .cells pcs 145) (B := .cells #[.string ⟨#[]⟩, .slice none 0 0, .int .i64 0, .slice (some ⟨w4.heap.size, 0, none⟩) np np, .slice none 0 0, .slice none 0 0, .slice none 0 0, .slice none 0 0, .slice none 0 0, .slice none 0 0, .int .i64 0] 48)
  have HBB := Lib.hid r1
  have HBN := Lib.hid rb
  clear r0 r1 rb hmk HCL
  generalize (w4.alloc (.cells pcs 145)).alloc (.cells #[.string ⟨#[]⟩, .slice none 0 0, .int .i64 0, .slice (some ⟨w4.heap.size, 0, none⟩) np np, .slice none 0 0, .slice none 0 0, .slice none 0 0, .slice none 0 0, .slice none 0 0, .slice none 0 0, .int .i64 0] 48) = w5 at *
  have HBw5 := Lib.hid (HB4.out.trans (HBN.out.mono HB4.out.size))
  generalize hbP : w4.heap.size = bP at HBB ⊢
  generalize hbB : bP + 1 = bB at HBB ⊢
  clear hbB
  go_wp2_with fail
  go_loopw [14] (fun iv wr => ∃ i : Nat, i ≤ L.length ∧ iv = .int .i64 (i : Int) ∧ Below w5.heap.size w5 wr) (fun iv _ => L.length - (intOf iv).toNat)
  case atStart => exact ⟨0, Nat.zero_le _, rfl, Below.refl _ _⟩
  case round =>
    obtain ⟨i, hi, rfl, hB⟩ := hrel
    have HBr := Lib.hid hB
    clear hB
    by_cases hlt : i < L.length
    · obtain ⟨q, hq⟩ : ∃ q, L[i]? = some q := ⟨_, List.getElem?_eq_getElem hlt⟩
      obtain ⟨b, o, rfl, hbl, hrg⟩ := HAT.out i q hq
      have hmq := List.mem_of_getElem? hq
      have HU := Lib.hid (HR.out q hmq)
      have hnq := HI.out q hmq
      have HSRC : Hid (I64 q.x.cast.src) := Lib.hid hnq.1.2.2.2
      have HSPI : Hid (∀ r ∈ q.x.cast.rain, SpanI r) := Lib.hid hnq.2
      have HBwr := Lib.hid (HBw5.out.trans (HBr.out.mono HBw5.out.size))
      have hrg2 := range_below hrg HBwr.out hbl
      unfold cellsQ entC cellsE cellsN at hrg2
      dsimp only at hrg2
      have HRG : Hid (wr.rangeAt b (o + i * 5 + 2) [.int .i64 q.x.cast.id, .int .i64 q.x.cast.src, .slice q.a q.x.cast.rain.length q.c]) := Lib.hid (fun z u hu => by
        match z, hu with
        | 0, hu => cases hu; exact hrg2 2 _ rfl
        | 1, hu => cases hu; exact hrg2 3 _ rfl
        | 2, hu => cases hu; exact hrg2 4 _ rfl)
      have HX := Lib.hid (heap_alloc_new wr (.cells #[.int .i64 q.x.cast.id, .int .i64 q.x.cast.src, .slice q.a q.x.cast.rain.length q.c] 27))
      have HBx := Lib.hid (HBr.out.alloc HBr.out.size (.cells #[.int .i64 q.x.cast.id, .int .i64 q.x.cast.src, .slice q.a q.x.cast.rain.length q.c] 27))
      have HBw := Lib.hid (HBwr.out.alloc HBwr.out.size (.cells #[.int .i64 q.x.cast.id, .int .i64 q.x.cast.src, .slice q.a q.x.cast.rain.length q.c] 27))
      clear hq hmq hnq hrg hrg2 hbl
      go_upto_region 14 with (refine wpList_load_range (by first | (go_simp; done) | rfl) 27 _ rfl _ _ rfl _ _ HRG.out undKs rfl infoKs ?_)
      clear HRG
      generalize wr.alloc (.cells #[.int .i64 q.x.cast.id, .int .i64 q.x.cast.src, .slice q.a q.x.cast.rain.length q.c] 27) = w2' at *
      generalize wr.heap.size = bX at *
      refine wp_region_noPanic ?_
      refine wp_region_held_drew (S := fun w' => w'.heap[bX]? = some (.cells #[.int .i64 q.x.cast.id, .int .i64 q.x.cast.src, .slice q.a q.x.cast.rain.length q.c] 27 (0, 0)) ∧ Below w2'.heap.size w2' w') (by kernel_rfl) ⟨HX.out, (Below.refl _ _).drew⟩ (fun hHeld => ?_)
      refine' wpAnyH_take (i := 0) (v := _) (by simp only [List.getElem?_toArray, List.getElem?_cons_succ, List.getElem?_cons_zero]; exact rfl) (by kernel_rfl) (by kernel_rfl) (by kernel_rfl) (fun _ _ _ h => h) (Or.inl ⟨by rfl, ?y0x1⟩) hHeld ?r0x1
      case y0x1 => (intro w hSw; refine exec_load_row 27 ?_ ?_ _ ?_ 27 _ _ _ (hSw.1) undKs rfl infoKs; rotate_left 1; exact rfl; exact rfl)
      try simp only [Act.put, List.setIfInBounds_toArray, List.set_cons_zero, List.set_cons_succ]
      refine' wpAnyH_take (i := 1) (v := _) (by simp only [List.getElem?_toArray, List.getElem?_cons_succ, List.getElem?_cons_zero]; exact rfl) (by kernel_rfl) (by kernel_rfl) (by kernel_rfl) (fun _ _ _ h => h) (Or.inl ⟨by rfl, ?y1x2⟩) hHeld ?r1x2
      case y1x2 => (intro w hSw; (try dsimp only at hSw); go_simp; try with_reducible rfl)
      try simp only [Act.put, List.setIfInBounds_toArray, List.set_cons_zero, List.set_cons_succ]
      refine' wpAnyH_take (i := 2) (v := _) (by simp only [List.getElem?_toArray, List.getElem?_cons_succ, List.getElem?_cons_zero]; exact rfl) (by kernel_rfl) (by kernel_rfl) (by kernel_rfl) (fun _ _ _ h => h) (Or.inl ⟨by rfl, ?y2x3⟩) hHeld ?r2x3
      case y2x3 => (intro w hSw; (try dsimp only at hSw); go_simp; try with_reducible rfl)
      try simp only [Act.put, List.setIfInBounds_toArray, List.set_cons_zero, List.set_cons_succ]
      refine' wpAnyH_take (i := 4) (v := _) (by simp only [List.getElem?_toArray, List.getElem?_cons_succ, List.getElem?_cons_zero]; exact rfl) (by kernel_rfl) (by kernel_rfl) (by kernel_rfl) (fun _ _ _ h => h) (Or.inl ⟨by rfl, ?y4x4⟩) hHeld ?r4x4
      case y4x4 => (intro w hSw; refine exec_load_row 27 ?_ ?_ _ ?_ 27 _ _ _ (hSw.1) undKs rfl infoKs; rotate_left 1; exact rfl; exact rfl)
      try simp only [Act.put, List.setIfInBounds_toArray, List.set_cons_zero, List.set_cons_succ]
      refine' wpAnyH_take (i := 5) (v := _) (by simp only [List.getElem?_toArray, List.getElem?_cons_succ, List.getElem?_cons_zero]; exact rfl) (by kernel_rfl) (by kernel_rfl) (by kernel_rfl) (fun _ _ _ h => h) (Or.inl ⟨by rfl, ?y5x5⟩) hHeld ?r5x5
      case y5x5 => (intro w hSw; (try dsimp only at hSw); go_simp; try with_reducible rfl)
      try simp only [Act.put, List.setIfInBounds_toArray, List.set_cons_zero, List.set_cons_succ]
      refine' wpAnyH_take (i := 6) (v := _) (by simp only [List.getElem?_toArray, List.getElem?_cons_succ, List.getElem?_cons_zero]; exact rfl) (by kernel_rfl) (by kernel_rfl) (by kernel_rfl) (fun _ _ _ h => h) (Or.inl ⟨by rfl, ?y6x6⟩) hHeld ?r6x6
      case y6x6 => (intro w hSw; (try dsimp only at hSw); go_simp; try with_reducible rfl)
      try simp only [Act.put, List.setIfInBounds_toArray, List.set_cons_zero, List.set_cons_succ]
      refine wpAnyH_ready (rs := [3]) (by kernel_rfl) (by simp) ?_
      refine AllReadyH.cons (by simp only [List.getElem?_toArray, List.getElem?_cons_succ, List.getElem?_cons_zero]; exact rfl) (fun K hK => ?_) AllReadyH.nil
      go_simp
      refine (catl_any q.x.cast (.slice q.a q.x.cast.rain.length q.c) h pl _ (HU.out.below (stays_list stays_Span 2) (HBw.out.trans (hHeld.2.mono HBw.out.size))) hh HSRC.out HSPI.out).mono ?_
      rintro e w3 ⟨vA, rfl, hA, hb⟩
      have HVA := Lib.hid hA
      clear hA
      refine hK.out _ _ (⟨blk_below hHeld.1 hb (blk_lt hHeld.1), hHeld.2.trans (hb.mono hHeld.2.size)⟩) (fun hHeld => ?_)
      clear hK K hb
      try simp only [Act.put, List.setIfInBounds_toArray, List.set_cons_zero, List.set_cons_succ]
      refine wpAnyH_ready (rs := [7]) (by kernel_rfl) (by simp) ?_
      refine AllReadyH.cons (by simp only [List.getElem?_toArray, List.getElem?_cons_succ, List.getElem?_cons_zero]; exact rfl) (fun K hK => ?_) AllReadyH.nil
      go_simp
      refine (ratl_any q.x.cast (.slice q.a q.x.cast.rain.length q.c) h pl _ (HU.out.below (stays_list stays_Span 2) (HBw.out.trans (hHeld.2.mono HBw.out.size))) hh HSRC.out HSPI.out).mono ?_
      rintro e w4 ⟨vB, rfl, hBv, hb⟩
      have HVA2 := Lib.hid (HVA.out.below stays_Span hb)
      have HVB := Lib.hid hBv
      clear hBv HVA
      refine hK.out _ _ (⟨blk_below hHeld.1 hb (blk_lt hHeld.1), hHeld.2.trans (hb.mono hHeld.2.size)⟩) (fun hHeld => ?_)
      clear hK K hb
      try simp only [Act.put, List.setIfInBounds_toArray, List.set_cons_zero, List.set_cons_succ]
      refine wpAnyH_ready (rs := [8]) (by kernel_rfl) (by simp) ?_
      refine AllReadyH.cons (by simp only [List.getElem?_toArray, List.getElem?_cons_succ, List.getElem?_cons_zero]; exact rfl) (fun K hK => ?_) AllReadyH.nil
      go_simp
      refine (sameSp_any (atP q.x.cast h pl) vA vB _ HVA2.out HVB.out (atP_len _ _ _)).mono ?_
      rintro e w5 ⟨rfl, hb⟩
      refine hK.out _ _ (⟨blk_below hHeld.1 hb (blk_lt hHeld.1), hHeld.2.trans (hb.mono hHeld.2.size)⟩) (fun hHeld => ?_)
      clear hK K hb
      try simp only [Act.put, List.setIfInBounds_toArray, List.set_cons_zero, List.set_cons_succ]
      refine' wpAnyH_take (i := 9) (v := _) (by simp only [List.getElem?_toArray, List.getElem?_cons_succ, List.getElem?_cons_zero]; exact rfl) (by kernel_rfl) (by kernel_rfl) (by kernel_rfl) (fun _ _ _ h => h) (Or.inl ⟨by rfl, ?y9x7⟩) hHeld ?r9x7
      case y9x7 => (intro w hSw; (try dsimp only at hSw); go_simp; try with_reducible rfl)
      try simp only [Act.put, List.setIfInBounds_toArray, List.set_cons_zero, List.set_cons_succ]
      refine wpAnyH_done (by kernel_rfl) ?_ _
      refine NoPanic.normal ?_
      obtain ⟨hx6, hb6⟩ := hHeld
      have HX6 := Lib.hid hx6
      rename World => w6
      have HBx6 := Lib.hid (HBx.out.trans (hb6.mono HBx.out.size))
      have HBw6 := Lib.hid (HBw.out.trans (hb6.mono HBw.out.size))
      have HBB6 := Lib.hid (blk_below HBB.out HBx6.out (blk_lt HBB.out))
      clear hx6 hb6 HX
      go_upto_region 15 with fail
      obtain ⟨q1, hq1⟩ : ∃ q1, o1[i]? = some q1 := ⟨_, List.getElem?_eq_getElem (by rw [HL1.out]; exact hlt)⟩
      obtain ⟨q2, hq2⟩ : ∃ q2, o2[i]? = some q2 := ⟨_, List.getElem?_eq_getElem (by rw [HL2.out]; exact hlt)⟩
      have hkey : newsB q2.x = newsB q1.x := by
        have h1 : (o1.map fun q => newsB q.x)[i]? = some (newsB q1.x) := by rw [List.getElem?_map, hq1]; rfl
        rw [HKE.out, List.getElem?_map, hq2] at h1
        exact Option.some.inj h1
      obtain ⟨g1, rfl, hg1, hr1⟩ := HA1w.out i q1 hq1
      obtain ⟨g2, rfl, -, hg2, hr2⟩ := HA2.out i q2 hq2
      rw [Nat.zero_add] at hr2
      have hbl6 := HBN.out.trans (HBx6.out.mono HBN.out.size)
      have HRO : Hid (w6.rangeAt g1 (i * 5) [.int .i64 q1.x.kind, .int .i64 q1.x.known, .int .i64 q1.x.cast.id, .int .i64 q1.x.cast.src, .slice q1.a q1.x.cast.rain.length q1.c]) := Lib.hid (range_below hr1 hbl6 hg1)
      have HRR : Hid (w6.rangeAt g2 (i * 5) [.int .i64 q2.x.kind, .int .i64 q2.x.known, .int .i64 q2.x.cast.id, .int .i64 q2.x.cast.src, .slice q2.a q2.x.cast.rain.length q2.c]) := Lib.hid (range_below hr2 hbl6 hg2)
      have HOL := Lib.hid (Nat.lt_of_lt_of_le hg1 hbl6.size)
      have HRL := Lib.hid (Nat.lt_of_lt_of_le hg2 hbl6.size)
      have hm1 := HP1.out.mem_iff.1 (List.mem_of_getElem? hq1)
      have hm2 := HP2.out.mem_iff.1 (List.mem_of_getElem? hq2)
      have HU1 := Lib.hid (HR.out q1 hm1)
      have HN1 := Lib.hid (HI.out q1 hm1)
      have HF1 := Lib.hid (HFQ.out q1 hm1)
      have HU2 := Lib.hid (HR.out q2 hm2)
      have HRB : Hid (∀ W, LArg (RList RSpan 2) 1 (.slice q2.a q2.x.cast.rain.length q2.c) q2.x.cast.rain W → Calls Try.prog 27 #[.agg #[.int .i64 q2.x.kind, .int .i64 q2.x.known, .int .i64 q2.x.cast.id, .int .i64 q2.x.cast.src, .slice q2.a q2.x.cast.rain.length q2.c]] W fun e w' => e = .returned (.string ⟨(newsB q1.x).toArray⟩) ∧ Below W.heap.size W w') := Lib.hid (fun W hW => by
        rw [← hkey]
        exact rbytes_any q2.x _ W hW (HI.out q2 hm2).1 (HI.out q2 hm2).2 (HFQ.out q2 hm2).1 (HFQ.out q2 hm2).2)
      obtain ⟨rb, hrb⟩ : ∃ rb, rb = rightB np q.x.cast := ⟨_, rfl⟩
      have HRT1 : Hid (∀ W, LArg (RList RSpan 2) 1 (.slice q.a q.x.cast.rain.length q.c) q.x.cast.rain W → Calls Try.prog 16 #[.agg #[.string ⟨#[]⟩, .slice none 0 0, .int .i64 0, .slice (some ⟨bP, 0, none⟩) np np, .slice none 0 0, .slice none 0 0, .slice none 0 0, .slice none 0 0, .slice none 0 0, .slice none 0 0, .int .i64 0], .agg #[.int .i64 q.x.cast.id, .int .i64 q.x.cast.src, .slice q.a q.x.cast.rain.length q.c]] W fun e w' => e = .returned (.bool rb) ∧ Below W.heap.size W w') := Lib.hid (fun W hW => by
        rw [hrb]
        exact right_any np np (some ⟨bP, 0, none⟩) q.x.cast _ W hW (by omega))
      have HRT2 : Hid (∀ W, LArg (RList RSpan 2) 1 (.slice q.a q.x.cast.rain.length q.c) q.x.cast.rain W → Calls Try.prog 28 #[.agg #[.string ⟨#[]⟩, .slice none 0 0, .int .i64 0, .slice (some ⟨bP, 0, none⟩) np np, .slice none 0 0, .slice none 0 0, .slice none 0 0, .slice none 0 0, .slice none 0 0, .slice none 0 0, .int .i64 0], .agg #[.int .i64 q.x.cast.id, .int .i64 q.x.cast.src, .slice q.a q.x.cast.rain.length q.c]] W fun e w' => e = .returned (.bool rb) ∧ Below W.heap.size W w') := Lib.hid (fun W hW => by
        rw [hrb]
        exact rright_any np np (some ⟨bP, 0, none⟩) q.x.cast _ W hW (by omega))
      obtain ⟨cb, hcb⟩ : ∃ cb, cb = coversB q.x.cast h fl := ⟨_, rfl⟩
      have HCV1 : Hid (∀ W, LArg (RList RSpan 2) 1 (.slice q.a q.x.cast.rain.length q.c) q.x.cast.rain W → LArg RInt 1 (.slice af fl.length qf) fl W → Calls Try.prog 19 #[.agg #[.int .i64 q.x.cast.id, .int .i64 q.x.cast.src, .slice q.a q.x.cast.rain.length q.c], .int .i64 h, .slice af fl.length qf] W fun e w' => e = .returned (.bool cb) ∧ Below W.heap.size W w') := Lib.hid (fun W hW hf => by
        rw [hcb]
        exact covers_any q.x.cast _ h fl _ W hW hh HSRC.out hf)
      have HCV2 : Hid (∀ W, LArg (RList RSpan 2) 1 (.slice q.a q.x.cast.rain.length q.c) q.x.cast.rain W → LArg RInt 1 (.slice af fl.length qf) fl W → Calls Try.prog 29 #[.agg #[.int .i64 q.x.cast.id, .int .i64 q.x.cast.src, .slice q.a q.x.cast.rain.length q.c], .int .i64 h, .slice af fl.length qf] W fun e w' => e = .returned (.bool cb) ∧ Below W.heap.size W w') := Lib.hid (fun W hW hf => by
        rw [hcb]
        exact rcovers_any q.x.cast _ h fl _ W hW hh HSRC.out HSPI.out hf)
      have hlto : (i : Int) < (L.length : Int) := by omega
      clear hq1 hq2 hkey hr1 hr2 hg1 hg2 hbl6 hm1 hm2 hrb hcb
      refine wp_region_noPanic ?_
      refine wp_region_held_drew (S := fun w' => w'.heap[bX]? = some (.cells #[.int .i64 q.x.cast.id, .int .i64 q.x.cast.src, .slice q.a q.x.cast.rain.length q.c] 27 (0, 0)) ∧ w'.heap[bB]? = some (.cells #[.string ⟨#[]⟩, .slice none 0 0, .int .i64 0, .slice (some ⟨bP, 0, none⟩) np np, .slice none 0 0, .slice none 0 0, .slice none 0 0, .slice none 0 0, .slice none 0 0, .slice none 0 0, .int .i64 0] 48 (0, 0)) ∧ Below w6.heap.size w6 w') (by kernel_rfl) ⟨HX6.out, HBB6.out, (Below.refl _ _).drew⟩ (fun hHeld => ?_)
      refine' wpAnyH_take (i := 0) (v := _) (by simp only [List.getElem?_toArray, List.getElem?_cons_succ, List.getElem?_cons_zero]; exact rfl) (by kernel_rfl) (by kernel_rfl) (by kernel_rfl) (fun _ _ _ h => h) (Or.inl ⟨by rfl, ?y0x8⟩) hHeld ?r0x8
      case y0x8 => (intro w hSw; (try dsimp only at hSw); go_simp; try with_reducible rfl)
      try simp only [Act.put, List.setIfInBounds_toArray, List.set_cons_zero, List.set_cons_succ]
      refine' wpAnyH_take (i := 1) (v := _) (by simp only [List.getElem?_toArray, List.getElem?_cons_succ, List.getElem?_cons_zero]; exact rfl) (by kernel_rfl) (by kernel_rfl) (by kernel_rfl) (fun _ _ _ h => h) (Or.inl ⟨by rfl, ?y1x9⟩) hHeld ?r1x9
      case y1x9 => (intro w hSw; (try dsimp only at hSw); go_simp; try with_reducible rfl)
      try simp only [Act.put, List.setIfInBounds_toArray, List.set_cons_zero, List.set_cons_succ]
      refine' wpAnyH_take (i := 2) (v := _) (by simp only [List.getElem?_toArray, List.getElem?_cons_succ, List.getElem?_cons_zero]; exact rfl) (by kernel_rfl) (by kernel_rfl) (by kernel_rfl) (fun _ _ _ h => h) (Or.inl ⟨by rfl, ?y2x10⟩) hHeld ?r2x10
      case y2x10 => (intro w hSw; (try dsimp only at hSw); go_simp; try with_reducible rfl)
      try simp only [Act.put, List.setIfInBounds_toArray, List.set_cons_zero, List.set_cons_succ]
      refine' wpAnyH_take (i := 3) (v := _) (by simp only [List.getElem?_toArray, List.getElem?_cons_succ, List.getElem?_cons_zero]; exact rfl) (by kernel_rfl) (by kernel_rfl) (by kernel_rfl) (fun _ _ _ h => h) (Or.inl ⟨by rfl, ?y3x11⟩) hHeld ?r3x11
      case y3x11 => (intro wz hSw; refine exec_load_range 29 ?_ ?_ _ _ ?_ _ _ (range_below HRO.out hSw.2.2 HOL.out) undNw rfl infoNw; rotate_left 1; exact rfl; exact rfl)
      try simp only [Act.put, List.setIfInBounds_toArray, List.set_cons_zero, List.set_cons_succ]
      refine' wpAnyH_take (i := 5) (v := _) (by simp only [List.getElem?_toArray, List.getElem?_cons_succ, List.getElem?_cons_zero]; exact rfl) (by kernel_rfl) (by kernel_rfl) (by kernel_rfl) (fun _ _ _ h => h) (Or.inl ⟨by rfl, ?y5x12⟩) hHeld ?r5x12
      case y5x12 => (intro w hSw; (try dsimp only at hSw); go_simp; try with_reducible rfl)
      try simp only [Act.put, List.setIfInBounds_toArray, List.set_cons_zero, List.set_cons_succ]
      refine' wpAnyH_take (i := 6) (v := _) (by simp only [List.getElem?_toArray, List.getElem?_cons_succ, List.getElem?_cons_zero]; exact rfl) (by kernel_rfl) (by kernel_rfl) (by kernel_rfl) (fun _ _ _ h => h) (Or.inl ⟨by rfl, ?y6x13⟩) hHeld ?r6x13
      case y6x13 => (intro w hSw; (try dsimp only at hSw); go_simp; try with_reducible rfl)
      try simp only [Act.put, List.setIfInBounds_toArray, List.set_cons_zero, List.set_cons_succ]
      refine' wpAnyH_take (i := 7) (v := _) (by simp only [List.getElem?_toArray, List.getElem?_cons_succ, List.getElem?_cons_zero]; exact rfl) (by kernel_rfl) (by kernel_rfl) (by kernel_rfl) (fun _ _ _ h => h) (Or.inl ⟨by rfl, ?y7x14⟩) hHeld ?r7x14
      case y7x14 => (intro w hSw; (try dsimp only at hSw); go_simp; try with_reducible rfl)
      try simp only [Act.put, List.setIfInBounds_toArray, List.set_cons_zero, List.set_cons_succ]
      refine' wpAnyH_take (i := 8) (v := _) (by simp only [List.getElem?_toArray, List.getElem?_cons_succ, List.getElem?_cons_zero]; exact rfl) (by kernel_rfl) (by kernel_rfl) (by kernel_rfl) (fun _ _ _ h => h) (Or.inl ⟨by rfl, ?y8x15⟩) hHeld ?r8x15
      case y8x15 => (intro wz hSw; refine exec_load_range 29 ?_ ?_ _ _ ?_ _ _ (range_below HRR.out hSw.2.2 HRL.out) undNw rfl infoNw; rotate_left 1; exact rfl; exact rfl)
      try simp only [Act.put, List.setIfInBounds_toArray, List.set_cons_zero, List.set_cons_succ]
      refine wpAnyH_ready (rs := [4]) (by kernel_rfl) (by simp) ?_
      refine AllReadyH.cons (by simp only [List.getElem?_toArray, List.getElem?_cons_succ, List.getElem?_cons_zero]; exact rfl) (fun K hK => ?_) AllReadyH.nil
      go_simp
      refine (cbytes_any q1.x (.slice q1.a q1.x.cast.rain.length q1.c) _ (HU1.out.below (stays_list stays_Span 2) (HBw6.out.trans (hHeld.2.2.mono HBw6.out.size))) HN1.out.1 HN1.out.2 HF1.out.1 HF1.out.2).mono ?_
      rintro e w' ⟨rfl, hb⟩
      refine hK.out _ _ (⟨blk_below hHeld.1 hb (blk_lt hHeld.1), blk_below hHeld.2.1 hb (blk_lt hHeld.2.1), hHeld.2.2.trans (hb.mono hHeld.2.2.size)⟩) (fun hHeld => ?_)
      clear hK K hb
      try simp only [Act.put, List.setIfInBounds_toArray, List.set_cons_zero, List.set_cons_succ]
      refine wpAnyH_ready (rs := [9]) (by kernel_rfl) (by simp) ?_
      refine AllReadyH.cons (by simp only [List.getElem?_toArray, List.getElem?_cons_succ, List.getElem?_cons_zero]; exact rfl) (fun K hK => ?_) AllReadyH.nil
      go_simp
      refine (HRB.out _ (HU2.out.below (stays_list stays_Span 2) (HBw6.out.trans (hHeld.2.2.mono HBw6.out.size)))).mono ?_
      rintro e w' ⟨rfl, hb⟩
      refine hK.out _ _ (⟨blk_below hHeld.1 hb (blk_lt hHeld.1), blk_below hHeld.2.1 hb (blk_lt hHeld.2.1), hHeld.2.2.trans (hb.mono hHeld.2.2.size)⟩) (fun hHeld => ?_)
      clear hK K hb
      try simp only [Act.put, List.setIfInBounds_toArray, List.set_cons_zero, List.set_cons_succ]
      refine' wpAnyH_take (i := 10) (v := _) (by simp only [List.getElem?_toArray, List.getElem?_cons_succ, List.getElem?_cons_zero]; exact rfl) (by kernel_rfl) (by kernel_rfl) (by kernel_rfl) (fun _ _ _ h => h) (Or.inl ⟨by rfl, ?y10x16⟩) hHeld ?r10x16
      case y10x16 => (intro w hSw; (try dsimp only at hSw); go_simp; try with_reducible rfl)
      try simp only [Act.put, List.setIfInBounds_toArray, List.set_cons_zero, List.set_cons_succ]
      refine' wpAnyH_take (i := 11) (v := _) (by simp only [List.getElem?_toArray, List.getElem?_cons_succ, List.getElem?_cons_zero]; exact rfl) (by kernel_rfl) (by kernel_rfl) (by kernel_rfl) (fun _ _ _ h => h) (Or.inl ⟨by rfl, ?y11x17⟩) hHeld ?r11x17
      case y11x17 => (intro w hSw; (try dsimp only at hSw); go_simp; try with_reducible rfl)
      try simp only [Act.put, List.setIfInBounds_toArray, List.set_cons_zero, List.set_cons_succ]
      refine' wpAnyH_take (i := 12) (v := _) (by simp only [List.getElem?_toArray, List.getElem?_cons_succ, List.getElem?_cons_zero]; exact rfl) (by kernel_rfl) (by kernel_rfl) (by kernel_rfl) (fun _ _ _ h => h) (Or.inl ⟨by rfl, ?y12x18⟩) hHeld ?r12x18
      case y12x18 => (intro w hSw; refine exec_load_row 48 ?_ ?_ _ ?_ 48 _ _ _ (hSw.2.1) undBaK rfl infoBaK; rotate_left 1; exact rfl; exact rfl)
      try simp only [Act.put, List.setIfInBounds_toArray, List.set_cons_zero, List.set_cons_succ]
      refine' wpAnyH_take (i := 13) (v := _) (by simp only [List.getElem?_toArray, List.getElem?_cons_succ, List.getElem?_cons_zero]; exact rfl) (by kernel_rfl) (by kernel_rfl) (by kernel_rfl) (fun _ _ _ h => h) (Or.inl ⟨by rfl, ?y13x19⟩) hHeld ?r13x19
      case y13x19 => (intro w hSw; refine exec_load_row 27 ?_ ?_ _ ?_ 27 _ _ _ (hSw.1) undKs rfl infoKs; rotate_left 1; exact rfl; exact rfl)
      try simp only [Act.put, List.setIfInBounds_toArray, List.set_cons_zero, List.set_cons_succ]
      refine' wpAnyH_take (i := 15) (v := _) (by simp only [List.getElem?_toArray, List.getElem?_cons_succ, List.getElem?_cons_zero]; exact rfl) (by kernel_rfl) (by kernel_rfl) (by kernel_rfl) (fun _ _ _ h => h) (Or.inl ⟨by rfl, ?y15x20⟩) hHeld ?r15x20
      case y15x20 => (intro w hSw; refine exec_load_row 48 ?_ ?_ _ ?_ 48 _ _ _ (hSw.2.1) undBaK rfl infoBaK; rotate_left 1; exact rfl; exact rfl)
      try simp only [Act.put, List.setIfInBounds_toArray, List.set_cons_zero, List.set_cons_succ]
      refine' wpAnyH_take (i := 16) (v := _) (by simp only [List.getElem?_toArray, List.getElem?_cons_succ, List.getElem?_cons_zero]; exact rfl) (by kernel_rfl) (by kernel_rfl) (by kernel_rfl) (fun _ _ _ h => h) (Or.inl ⟨by rfl, ?y16x21⟩) hHeld ?r16x21
      case y16x21 => (intro w hSw; refine exec_load_row 27 ?_ ?_ _ ?_ 27 _ _ _ (hSw.1) undKs rfl infoKs; rotate_left 1; exact rfl; exact rfl)
      try simp only [Act.put, List.setIfInBounds_toArray, List.set_cons_zero, List.set_cons_succ]
      refine wpAnyH_ready (rs := [14]) (by kernel_rfl) (by simp) ?_
      refine AllReadyH.cons (by simp only [List.getElem?_toArray, List.getElem?_cons_succ, List.getElem?_cons_zero]; exact rfl) (fun K hK => ?_) AllReadyH.nil
      go_simp
      refine (HRT1.out _ (HU.out.below (stays_list stays_Span 2) (HBw6.out.trans (hHeld.2.2.mono HBw6.out.size)))).mono ?_
      rintro e w' ⟨rfl, hb⟩
      refine hK.out _ _ (⟨blk_below hHeld.1 hb (blk_lt hHeld.1), blk_below hHeld.2.1 hb (blk_lt hHeld.2.1), hHeld.2.2.trans (hb.mono hHeld.2.2.size)⟩) (fun hHeld => ?_)
      clear hK K hb
      try simp only [Act.put, List.setIfInBounds_toArray, List.set_cons_zero, List.set_cons_succ]
      refine wpAnyH_ready (rs := [17]) (by kernel_rfl) (by simp) ?_
      refine AllReadyH.cons (by simp only [List.getElem?_toArray, List.getElem?_cons_succ, List.getElem?_cons_zero]; exact rfl) (fun K hK => ?_) AllReadyH.nil
      go_simp
      refine (HRT2.out _ (HU.out.below (stays_list stays_Span 2) (HBw6.out.trans (hHeld.2.2.mono HBw6.out.size)))).mono ?_
      rintro e w' ⟨rfl, hb⟩
      refine hK.out _ _ (⟨blk_below hHeld.1 hb (blk_lt hHeld.1), blk_below hHeld.2.1 hb (blk_lt hHeld.2.1), hHeld.2.2.trans (hb.mono hHeld.2.2.size)⟩) (fun hHeld => ?_)
      clear hK K hb
      try simp only [Act.put, List.setIfInBounds_toArray, List.set_cons_zero, List.set_cons_succ]
      refine' wpAnyH_take (i := 18) (v := _) (by simp only [List.getElem?_toArray, List.getElem?_cons_succ, List.getElem?_cons_zero]; exact rfl) (by kernel_rfl) (by kernel_rfl) (by kernel_rfl) (fun _ _ _ h => h) (Or.inl ⟨by rfl, ?y18x22⟩) hHeld ?r18x22
      case y18x22 => (intro w hSw; (try dsimp only at hSw); go_simp; try with_reducible rfl)
      try simp only [Act.put, List.setIfInBounds_toArray, List.set_cons_zero, List.set_cons_succ]
      refine' wpAnyH_take (i := 19) (v := _) (by simp only [List.getElem?_toArray, List.getElem?_cons_succ, List.getElem?_cons_zero]; exact rfl) (by kernel_rfl) (by kernel_rfl) (by kernel_rfl) (fun _ _ _ h => h) (Or.inl ⟨by rfl, ?y19x23⟩) hHeld ?r19x23
      case y19x23 => (intro w hSw; (try dsimp only at hSw); go_simp; try with_reducible rfl)
      try simp only [Act.put, List.setIfInBounds_toArray, List.set_cons_zero, List.set_cons_succ]
      refine' wpAnyH_take (i := 20) (v := _) (by simp only [List.getElem?_toArray, List.getElem?_cons_succ, List.getElem?_cons_zero]; exact rfl) (by kernel_rfl) (by kernel_rfl) (by kernel_rfl) (fun _ _ _ h => h) (Or.inl ⟨by rfl, ?y20x24⟩) hHeld ?r20x24
      case y20x24 => (intro w hSw; (try dsimp only at hSw); go_simp; try with_reducible rfl)
      try simp only [Act.put, List.setIfInBounds_toArray, List.set_cons_zero, List.set_cons_succ]
      refine' wpAnyH_take (i := 21) (v := _) (by simp only [List.getElem?_toArray, List.getElem?_cons_succ, List.getElem?_cons_zero]; exact rfl) (by kernel_rfl) (by kernel_rfl) (by kernel_rfl) (fun _ _ _ h => h) (Or.inl ⟨by rfl, ?y21x25⟩) hHeld ?r21x25
      case y21x25 => (intro w hSw; (try dsimp only at hSw); go_simp; try with_reducible rfl)
      try simp only [Act.put, List.setIfInBounds_toArray, List.set_cons_zero, List.set_cons_succ]
      refine' wpAnyH_take (i := 22) (v := _) (by simp only [List.getElem?_toArray, List.getElem?_cons_succ, List.getElem?_cons_zero]; exact rfl) (by kernel_rfl) (by kernel_rfl) (by kernel_rfl) (fun _ _ _ h => h) (Or.inl ⟨by rfl, ?y22x26⟩) hHeld ?r22x26
      case y22x26 => (intro w hSw; (try dsimp only at hSw); go_simp; try with_reducible rfl)
      try simp only [Act.put, List.setIfInBounds_toArray, List.set_cons_zero, List.set_cons_succ]
      refine' wpAnyH_take (i := 23) (v := _) (by simp only [List.getElem?_toArray, List.getElem?_cons_succ, List.getElem?_cons_zero]; exact rfl) (by kernel_rfl) (by kernel_rfl) (by kernel_rfl) (fun _ _ _ h => h) (Or.inl ⟨by rfl, ?y23x27⟩) hHeld ?r23x27
      case y23x27 => (intro w hSw; (try dsimp only at hSw); go_simp; try with_reducible rfl)
      try simp only [Act.put, List.setIfInBounds_toArray, List.set_cons_zero, List.set_cons_succ]
      refine' wpAnyH_take (i := 24) (v := _) (by simp only [List.getElem?_toArray, List.getElem?_cons_succ, List.getElem?_cons_zero]; exact rfl) (by kernel_rfl) (by kernel_rfl) (by kernel_rfl) (fun _ _ _ h => h) (Or.inl ⟨by rfl, ?y24x28⟩) hHeld ?r24x28
      case y24x28 => (intro w hSw; (try dsimp only at hSw); go_simp; try with_reducible rfl)
      try simp only [Act.put, List.setIfInBounds_toArray, List.set_cons_zero, List.set_cons_succ]
      refine' wpAnyH_take (i := 25) (v := _) (by simp only [List.getElem?_toArray, List.getElem?_cons_succ, List.getElem?_cons_zero]; exact rfl) (by kernel_rfl) (by kernel_rfl) (by kernel_rfl) (fun _ _ _ h => h) (Or.inl ⟨by rfl, ?y25x29⟩) hHeld ?r25x29
      case y25x29 => (intro w hSw; refine exec_load_row 27 ?_ ?_ _ ?_ 27 _ _ _ (hSw.1) undKs rfl infoKs; rotate_left 1; exact rfl; exact rfl)
      try simp only [Act.put, List.setIfInBounds_toArray, List.set_cons_zero, List.set_cons_succ]
      refine' wpAnyH_take (i := 26) (v := _) (by simp only [List.getElem?_toArray, List.getElem?_cons_succ, List.getElem?_cons_zero]; exact rfl) (by kernel_rfl) (by kernel_rfl) (by kernel_rfl) (fun _ _ _ h => h) (Or.inl ⟨by rfl, ?y26x30⟩) hHeld ?r26x30
      case y26x30 => (intro w hSw; (try dsimp only at hSw); go_simp; try with_reducible rfl)
      try simp only [Act.put, List.setIfInBounds_toArray, List.set_cons_zero, List.set_cons_succ]
      refine' wpAnyH_take (i := 27) (v := _) (by simp only [List.getElem?_toArray, List.getElem?_cons_succ, List.getElem?_cons_zero]; exact rfl) (by kernel_rfl) (by kernel_rfl) (by kernel_rfl) (fun _ _ _ h => h) (Or.inl ⟨by rfl, ?y27x31⟩) hHeld ?r27x31
      case y27x31 => (intro w hSw; (try dsimp only at hSw); go_simp; try with_reducible rfl)
      try simp only [Act.put, List.setIfInBounds_toArray, List.set_cons_zero, List.set_cons_succ]
      refine' wpAnyH_take (i := 29) (v := _) (by simp only [List.getElem?_toArray, List.getElem?_cons_succ, List.getElem?_cons_zero]; exact rfl) (by kernel_rfl) (by kernel_rfl) (by kernel_rfl) (fun _ _ _ h => h) (Or.inl ⟨by rfl, ?y29x32⟩) hHeld ?r29x32
      case y29x32 => (intro w hSw; refine exec_load_row 27 ?_ ?_ _ ?_ 27 _ _ _ (hSw.1) undKs rfl infoKs; rotate_left 1; exact rfl; exact rfl)
      try simp only [Act.put, List.setIfInBounds_toArray, List.set_cons_zero, List.set_cons_succ]
      refine' wpAnyH_take (i := 30) (v := _) (by simp only [List.getElem?_toArray, List.getElem?_cons_succ, List.getElem?_cons_zero]; exact rfl) (by kernel_rfl) (by kernel_rfl) (by kernel_rfl) (fun _ _ _ h => h) (Or.inl ⟨by rfl, ?y30x33⟩) hHeld ?r30x33
      case y30x33 => (intro w hSw; (try dsimp only at hSw); go_simp; try with_reducible rfl)
      try simp only [Act.put, List.setIfInBounds_toArray, List.set_cons_zero, List.set_cons_succ]
      refine' wpAnyH_take (i := 31) (v := _) (by simp only [List.getElem?_toArray, List.getElem?_cons_succ, List.getElem?_cons_zero]; exact rfl) (by kernel_rfl) (by kernel_rfl) (by kernel_rfl) (fun _ _ _ h => h) (Or.inl ⟨by rfl, ?y31x34⟩) hHeld ?r31x34
      case y31x34 => (intro w hSw; (try dsimp only at hSw); go_simp; try with_reducible rfl)
      try simp only [Act.put, List.setIfInBounds_toArray, List.set_cons_zero, List.set_cons_succ]
      refine wpAnyH_ready (rs := [28]) (by kernel_rfl) (by simp) ?_
      refine AllReadyH.cons (by simp only [List.getElem?_toArray, List.getElem?_cons_succ, List.getElem?_cons_zero]; exact rfl) (fun K hK => ?_) AllReadyH.nil
      go_simp
      refine (HCV1.out _ (HU.out.below (stays_list stays_Span 2) (HBw6.out.trans (hHeld.2.2.mono HBw6.out.size))) (HFL.out.below stays_int (HBw6.out.trans (hHeld.2.2.mono HBw6.out.size)))).mono ?_
      rintro e w' ⟨rfl, hb⟩
      refine hK.out _ _ (⟨blk_below hHeld.1 hb (blk_lt hHeld.1), blk_below hHeld.2.1 hb (blk_lt hHeld.2.1), hHeld.2.2.trans (hb.mono hHeld.2.2.size)⟩) (fun hHeld => ?_)
      clear hK K hb
      try simp only [Act.put, List.setIfInBounds_toArray, List.set_cons_zero, List.set_cons_succ]
      refine wpAnyH_ready (rs := [32]) (by kernel_rfl) (by simp) ?_
      refine AllReadyH.cons (by simp only [List.getElem?_toArray, List.getElem?_cons_succ, List.getElem?_cons_zero]; exact rfl) (fun K hK => ?_) AllReadyH.nil
      go_simp
      refine (HCV2.out _ (HU.out.below (stays_list stays_Span 2) (HBw6.out.trans (hHeld.2.2.mono HBw6.out.size))) (HFL.out.below stays_int (HBw6.out.trans (hHeld.2.2.mono HBw6.out.size)))).mono ?_
      rintro e w' ⟨rfl, hb⟩
      refine hK.out _ _ (⟨blk_below hHeld.1 hb (blk_lt hHeld.1), blk_below hHeld.2.1 hb (blk_lt hHeld.2.1), hHeld.2.2.trans (hb.mono hHeld.2.2.size)⟩) (fun hHeld => ?_)
      clear hK K hb
      try simp only [Act.put, List.setIfInBounds_toArray, List.set_cons_zero, List.set_cons_succ]
      refine' wpAnyH_take (i := 33) (v := _) (by simp only [List.getElem?_toArray, List.getElem?_cons_succ, List.getElem?_cons_zero]; exact rfl) (by kernel_rfl) (by kernel_rfl) (by kernel_rfl) (fun _ _ _ h => h) (Or.inl ⟨by rfl, ?y33x35⟩) hHeld ?r33x35
      case y33x35 => (intro w hSw; (try dsimp only at hSw); go_simp; try with_reducible rfl)
      try simp only [Act.put, List.setIfInBounds_toArray, List.set_cons_zero, List.set_cons_succ]
      refine' wpAnyH_take (i := 34) (v := _) (by simp only [List.getElem?_toArray, List.getElem?_cons_succ, List.getElem?_cons_zero]; exact rfl) (by kernel_rfl) (by kernel_rfl) (by kernel_rfl) (fun _ _ _ h => h) (Or.inl ⟨by rfl, ?y34x36⟩) hHeld ?r34x36
      case y34x36 => (intro w hSw; (try dsimp only at hSw); go_simp; try with_reducible rfl)
      try simp only [Act.put, List.setIfInBounds_toArray, List.set_cons_zero, List.set_cons_succ]
      refine wpAnyH_done (by kernel_rfl) ?_ _
      refine NoPanic.normal ?_
      obtain ⟨-, -, hbf⟩ := hHeld
      have HBf := Lib.hid (HBx6.out.trans (hbf.mono HBx6.out.size))
      go_wp2_with fail
      go_roundw
      case rel => exact ⟨i + 1, by omega, by go_num, HBf.out⟩
      case measure => simp [intOf]; omega
    · obtain rfl : i = L.length := by omega
      have HBwr := Lib.hid (HBw5.out.trans (HBr.out.mono HBw5.out.size))
      have hadm := adm_any (L.map (·.x)) (L.map (·.u)) a c h wr (HNS.out.below HBwr.out) HXI.out HFE.out (by rw [List.length_map]; omega)
      rw [List.length_map] at hadm
      have HAD := Lib.hid hadm
      clear hadm hlt hi
      go_wp2_with fail
      refine HAD.out.mono ?_
      rintro e w7 ⟨big, v7, rfl, hbig, hlv, hb⟩
      have HBIG := Lib.hid hbig
      have HLV := Lib.hid hlv
      have HB7 := Lib.hid (HBwr.out.trans (hb.mono HBwr.out.size))
      clear hbig hlv hb HAD
      have HRA := Lib.hid (radm_any L big a c h w7 (fun i q hq => by
        obtain ⟨b, o, h1, h2, h3⟩ := HAT.out i q hq
        exact ⟨b, o, h1, Nat.lt_of_lt_of_le h2 HB7.out.size, range_below h3 HB7.out h2⟩) (fun q hq => (HR.out q hq).below (stays_list stays_Span 2) HB7.out) HI.out HFQ.out hl40 HBIG.out)
      go_wp2_with fail
      refine HRA.out.mono ?_
      rintro e w8 ⟨v8, rfl, hlv8, hb⟩
      have hmemb : ∀ x ∈ (keepN big).map (·.cast), CastI x ∧ FewC x := fun x hx => by
        obtain ⟨y, hy, rfl⟩ := List.mem_map.1 hx
        have hyb := (HBIG.out.mem y (keep_mem hy).1).1
        have hn := HXI.out y hyb
        exact ⟨⟨⟨⟨by show (-9223372036854775808 : Int) ≤ 0; omega, by show (0 : Int) ≤ 9223372036854775807; omega⟩, ⟨by show (-9223372036854775808 : Int) ≤ 0; omega, by show (0 : Int) ≤ 9223372036854775807; omega⟩, hn.1.2.2.1, hn.1.2.2.2⟩, hn.2⟩, HFE.out y hyb⟩
      have HSA := Lib.hid (sameAll_any ((keepN big).map (·.cast)) v7 v8 w8 (HLV.out.below stays_Cast hb) hlv8 (fun x hx => (hmemb x hx).1) (fun x hx => (hmemb x hx).2) (by rw [List.length_map]; have := keep_len big; omega))
      have HB8 := Lib.hid (HB7.out.trans (hb.mono HB7.out.size))
      clear hmemb hlv8 hb HRA
      go_wp2_with fail
      refine HSA.out.mono ?_
      rintro e w9 ⟨rfl, hb⟩
      have HB9 := Lib.hid (HB8.out.trans (hb.mono HB8.out.size))
      clear hb
      go_wp2_with fail
      go_ret
      exact ⟨rfl, HB9.out⟩
end Go.Proofs.Ytleiiedacachjaa
