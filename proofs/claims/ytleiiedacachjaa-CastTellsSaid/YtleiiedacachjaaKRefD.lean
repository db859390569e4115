/- bourneref29.At and Covers. -/
import Derived.Test.YtleiiedacachjaaKRefC
import Derived.Deep.DeepCutAuto
import Derived.Deep.CutBlock
namespace Go.Proofs.Ytleiiedacachjaa
open Go.RowKit
theorem infoSp16 : ∃ i z, Try.prog.info? 54 = some i ∧ i.size = 2 ∧ i.zero = some z ∧ z.cells.size = 2 ∧ i.bytes = 16 := by
  have h : (Try.prog.info? 54).map (fun i => (i.size, i.zero.map (fun z => z.cells.size), i.bytes)) = some (2, some 2, 16) := by kernel_rfl
  cases hi : Try.prog.info? 54 with
  | none => rw [hi] at h; cases h
  | some i =>
    rw [hi] at h
    simp only [Option.map_some, Option.some.injEq, Prod.mk.injEq] at h
    obtain ⟨h1, h2, h3⟩ := h
    cases hz : i.zero with
    | none => rw [hz] at h2; cases h2
    | some z =>
      rw [hz] at h2
      simp only [Option.map_some, Option.some.injEq] at h2
      exact ⟨i, z, rfl, h1, hz, h2, h3⟩
/-- what the reference has for place i behind k hours -/
def upTo (x : CastV) (h : Int) (i k : Nat) : SpanV := if h < x.src then ⟨0, 0⟩ else if (h - x.src).toNat < k then (match x.rain[(h - x.src).toNat]? with | some r => (r[i]?).getD ⟨0, 0⟩ | none => ⟨0, 0⟩) else ⟨0, 0⟩
theorem zerosS_g {n i : Nat} (h : i < n) : (zerosS n)[i]? = some ⟨0, 0⟩ := by unfold zerosS; rw [List.getElem?_replicate, if_pos h]
theorem upTo_all {x : CastV} {h : Int} {i n : Nat} (hi : i < n) : (atL x h n)[i]? = some (upTo x h i x.rain.length) := by
  unfold atL upTo
  by_cases h1 : h < x.src
  · rw [if_pos h1, if_pos h1]; exact zerosS_g hi
  · rw [if_neg h1, if_neg h1]
    cases hr : x.rain[(h - x.src).toNat]? with
    | none => simp only [ite_self]; exact zerosS_g hi
    | some r =>
      have hlt := (List.getElem?_eq_some_iff.1 hr).1
      rw [if_pos hlt]
      dsimp only
      by_cases h2 : i < r.length
      · rw [List.getElem?_append_left (by rw [List.length_take]; omega), List.getElem?_take, if_pos hi, List.getElem?_eq_getElem h2]
        rfl
      · rw [List.getElem?_append_right (by rw [List.length_take]; omega), List.getElem?_drop, zerosS_g (by rw [List.length_take]; omega), List.getElem?_eq_none (by omega)]
        rfl
theorem upTo_lt {x : CastV} {h : Int} {i k : Nat} (h1 : h < x.src) : upTo x h i (k + 1) = upTo x h i k := by unfold upTo; rw [if_pos h1, if_pos h1]
theorem upTo_ne {x : CastV} {h : Int} {i k : Nat} (h1 : ¬ h < x.src) (h2 : h - x.src ≠ (k : Int)) : upTo x h i (k + 1) = upTo x h i k := by
  unfold upTo
  rw [if_neg h1, if_neg h1]
  by_cases h3 : (h - x.src).toNat < k
  · rw [if_pos h3, if_pos (by omega)]
  · rw [if_neg h3, if_neg (by omega)]
theorem upTo_eq {x : CastV} {h : Int} {i k : Nat} {r : List SpanV} (h1 : ¬ h < x.src) (h2 : h - x.src = (k : Int)) (hr : x.rain[k]? = some r) : upTo x h i (k + 1) = (r[i]?).getD ⟨0, 0⟩ := by
  unfold upTo
  rw [if_neg h1, if_pos (by omega), show (h - x.src).toNat = k by omega, hr]
theorem upTo_zero {x : CastV} {h : Int} {i : Nat} : upTo x h i 0 = ⟨0, 0⟩ := by
  unfold upTo
  split
  · rfl
  · rw [if_neg (Nat.not_lt_zero _)]
theorem upTo_at {x : CastV} {h : Int} {i k : Nat} (h1 : ¬ h < x.src) (h2 : h - x.src = (k : Int)) : upTo x h i k = ⟨0, 0⟩ := by
  unfold upTo
  rw [if_neg h1, if_neg (by omega)]
theorem wrap_ne {d : Int} {k : Nat} (h0 : 0 ≤ d) (h1 : d < 18446744073709551616) (hk : (k : Int) ≤ 9223372036854775807) (hne : d ≠ (k : Int)) : (IntKind.i64.wrap d == (k : Int)) = false := by
  rw [beq_eq_false_iff_ne, IntKind.wrap_i64]
  omega
theorem spV_take {l : List SpanV} {i : Nat} {s : SpanV} (h : l[i]? = some s) : spV (l.take (i + 1)) = spV (l.take i) ++ [.int .i64 s.lo, .int .i64 s.hi] := by
  rw [List.take_add_one, h, spV_app]
  rfl
theorem sp_new (w : World) (s : SpanV) : ∀ (j : Nat) u, ([Value.int .i64 s.lo, .int .i64 s.hi])[j]? = some u → (w.alloc (.cells #[.int .i64 s.lo, .int .i64 s.hi] 54)).cell? ((⟨w.heap.size, 0, none⟩ : Addr).add j) = some u := fun j u hj => by
  rw [Addr.add_mid, Nat.zero_add, cell_of_row _ _ _ _ _ _ (heap_alloc_new w (.cells #[.int .i64 s.lo, .int .i64 s.hi] 54)), ← Array.getElem?_toList]
  exact hj
theorem larg_spans {base n : Nat} {v : Value} {w : World} {e : TypeId} {l : List SpanV} (h : w.ownsRow base e 2 v n (spV l)) (hl : l.length = n) (hI : SpanI l) : LArg RSpan 2 v l w := by
  subst hl
  rcases h.2 with ⟨rfl, h0⟩ | ⟨g, cap, cur, rfl, hg, hh, hnc, hcm, hcs, htk⟩
  · exact ⟨none, 0, by rw [h0], by omega, Nat.zero_le _, fun i q hq => by rw [List.eq_nil_of_length_eq_zero h0] at hq; simp at hq⟩
  · refine ⟨_, _, rfl, hnc, hcm, fun i s hs => ⟨g, 0, [.int .i64 s.lo, .int .i64 s.hi], rfl, blk_lt hh, rfl, ?_, rfl, (hI s (List.mem_of_getElem? hs)).1, (hI s (List.mem_of_getElem? hs)).2⟩⟩
    obtain ⟨h1, h2⟩ := spV_get l i s hs
    have key : ∀ (j : Nat) u, (spV l)[j]? = some u → w.cell? ⟨g, j, none⟩ = some u := fun j u hu => by
      rw [← htk, List.getElem?_take] at hu
      split at hu
      · rw [cell_of_row _ _ _ _ _ _ hh, ← Array.getElem?_toList]; exact hu
      · cases hu
    rw [Nat.zero_add]
    exact range2 (key _ _ h1) (key _ _ h2)
set_option maxRecDepth 100000 in
set_option maxHeartbeats 8000000 in
theorem rat_own (x : CastV) (v0 : Value) (h : Int) (n : Nat) (w : World) (hr : LArg (RList RSpan 2) 1 v0 x.rain w) (hh : I64 h) (hs : I64 x.src) (h1 : 1 ≤ n) (h2 : n ≤ 64) :
    Calls Try.prog 26 #[.agg #[.int .i64 x.id, .int .i64 x.src, v0], .int .i64 h, .int .i64 (n : Int)] w fun e w' => ∃ v, e = .returned v ∧ w'.ownsRow w.heap.size 54 2 v n (spV (atL x h n)) ∧ Below w.heap.size w w' := by
  obtain ⟨ic, zc, hic, hsz, hzc, hcz, hbc⟩ := infoSp16
  obtain ⟨a0, q0, rfl, hq0, hqm⟩ := hr.slice
  unfold maxLen at hqm
  have HR := Lib.hid hr
  clear hr
  have HX0 := Lib.hid (heap_alloc_new w (.cells #[.int .i64 x.id, .int .i64 x.src, .slice a0 x.rain.length q0] 27))
  have HB0 := Lib.hid ((Below.refl w.heap.size w).alloc (Nat.le_refl _) (.cells #[.int .i64 x.id, .int .i64 x.src, .slice a0 x.rain.length q0] 27))
  go_enter Try.func26, Try.ntmps26
  go_upto_region 1 with fail
  generalize w.alloc (.cells #[.int .i64 x.id, .int .i64 x.src, .slice a0 x.rain.length q0] 27) = w0 at *
  have t1 : ¬ (n : Int) < 1 := by omega
  have t2 : ¬ (64 : Int) < (n : Int) := by omega
  go_wp2_with fail
  clear t1 t2
  go_loopw [7, 8] (fun tv iv wr => ∃ i : Nat, i ≤ n ∧ iv = .int .i64 (i : Int) ∧ wr.ownsRow w0.heap.size 54 2 tv i (spV ((atL x h n).take i)) ∧ Below w0.heap.size w0 wr) (fun _ iv _ => n - (intOf iv).toNat)
  case atStart => exact ⟨0, Nat.zero_le _, rfl, World.ownsRow_nil _ _ _ _, Below.refl _ _⟩
  case round =>
    obtain ⟨i, hi, rfl, ho, hB⟩ := hrel
    rename Value => tv
    have HO := Lib.hid ho
    have HB := Lib.hid hB
    clear ho hB
    by_cases hlt : i < n
    · have HZ0 := Lib.hid (heap_alloc_new wr (.cells #[.int .i64 0, .int .i64 0] 54))
      have HBZ := Lib.hid ((Below.refl wr.heap.size wr).alloc (Nat.le_refl _) (.cells #[.int .i64 0, .int .i64 0] 54))
      go_upto_region 8 with fail
      generalize wr.alloc (.cells #[.int .i64 0, .int .i64 0] 54) = w1 at *
      go_wp2_with fail
      go_loopw [10] (fun kv wy => ∃ k : Nat, k ≤ x.rain.length ∧ kv = .int .i64 (k : Int) ∧ wy.heap[wr.heap.size]? = some (.cells #[.int .i64 (upTo x h i k).lo, .int .i64 (upTo x h i k).hi] 54 (0, 0)) ∧ Below wr.heap.size wr wy) (fun kv _ => x.rain.length - (intOf kv).toNat)
      case atStart => exact ⟨0, Nat.zero_le _, rfl, by rw [upTo_zero]; exact HZ0.out, HBZ.out⟩
      case round =>
        rename World => wy
        obtain ⟨k, hk, rfl, hbx, hBy⟩ := hrel
        have HBX := Lib.hid hbx
        have HBy := Lib.hid hBy
        clear hbx hBy HZ0 HBZ
        have hcr := blk_below (blk_below HX0.out HB.out (blk_lt HX0.out)) HBy.out (Nat.lt_of_lt_of_le (blk_lt HX0.out) HB.out.size)
        have c1 := rowN hcr 1 (.int .i64 x.src) rfl
        have c2 := rowN hcr 2 (.slice a0 x.rain.length q0) rfl
        clear hcr
        by_cases hkl : k < x.rain.length
        · obtain ⟨r, hrr⟩ : ∃ r, x.rain[k]? = some r := ⟨_, List.getElem?_eq_getElem hkl⟩
          have HRR := Lib.hid hrr
          have hbb := HB0.out.trans ((HB.out.trans (HBy.out.mono HB.out.size)).mono HB0.out.size)
          obtain ⟨g, o, cs, ha, hbl, -, hrg, v, rfl, hrow⟩ := (HR.out.below (stays_list stays_Span 2) hbb).at hrr
          subst ha
          obtain ⟨a1, q1, rfl, hq1, hq2⟩ := hrow.slice
          unfold maxLen at hq2
          have ce := hrg 0 _ rfl
          simp only [Nat.mul_one, Nat.add_zero] at ce
          have HROW := Lib.hid hrow
          clear hrg hrow hrr hbb
          have hkl' : (k : Int) < (x.rain.length : Int) := by omega
          by_cases d1 : h < x.src
          · have d1' : ¬ x.src ≤ h := by omega
            have HE : Hid (upTo x h i (k + 1) = upTo x h i k) := Lib.hid (by exact upTo_lt d1)
            go_wp2_with fail
            go_roundw
            case rel => exact ⟨k + 1, by omega, by go_num, by rw [HE.out]; exact HBX.out, HBy.out⟩
            case measure => simp [intOf]; omega
          have d1' : x.src ≤ h := by omega
          by_cases d2 : h - x.src = (k : Int)
          rotate_left 1
          · have d2' := wrap_ne (d := h - x.src) (k := k) (by omega) (by unfold I64 at hh hs; omega) (by omega) d2
            obtain ⟨z, hz⟩ : ∃ z, IntKind.i64.wrap (h - x.src) = z := ⟨_, rfl⟩
            rw [hz] at d2'
            have HE : Hid (upTo x h i (k + 1) = upTo x h i k) := Lib.hid (by exact upTo_ne d1 d2)
            go_wp2_with fail
            go_roundw
            case rel => exact ⟨k + 1, by omega, by go_num, by rw [HE.out]; exact HBX.out, HBy.out⟩
            case measure => simp [intOf]; omega
          have d2' : IntKind.i64.wrap (h - x.src) = (k : Int) := by rw [d2]; exact IntWalk.i64_in _ (by omega)
          by_cases d3 : i < r.length
          rotate_left 1
          · have d3' : ¬ (i : Int) < (r.length : Int) := by omega
            have HE : Hid (upTo x h i (k + 1) = upTo x h i k) := Lib.hid (by rw [upTo_eq d1 d2 HRR.out, upTo_at d1 d2, List.getElem?_eq_none (by omega)]; rfl)
            go_wp2_with fail
            go_roundw
            case rel => exact ⟨k + 1, by omega, by go_num, by rw [HE.out]; exact HBX.out, HBy.out⟩
            case measure => simp [intOf]; omega
          have d3' : (i : Int) < (r.length : Int) := by omega
          obtain ⟨s, hss⟩ : ∃ s, r[i]? = some s := ⟨_, List.getElem?_eq_getElem d3⟩
          obtain ⟨g1, o1, cs1, ha1, hbl1, -, hrg1, hcs1⟩ := HROW.out.at hss
          subst ha1
          obtain ⟨rfl, -, -⟩ := hcs1
          have HRG := Lib.hid hrg1
          have HE : Hid (upTo x h i (k + 1) = s) := Lib.hid (by rw [upTo_eq d1 d2 HRR.out, hss]; rfl)
          have HBN : Hid (Below wr.heap.size wr (wy.setRow wr.heap.size #[.int .i64 s.lo, .int .i64 s.hi])) := Lib.hid (below_setRow HBy.out (Nat.le_refl _) _)
          have HBR := Lib.hid (setRow_heap wy wr.heap.size _ #[.int .i64 s.lo, .int .i64 s.hi] _ _ HBX.out)
          clear hrg1 hss
          go_wp2_with (first | (refine wpList_load_range (by first | (go_simp; done) | rfl) 54 _ rfl _ _ rfl _ _ HRG.out undSp rfl infoSp ?_) | (refine wpList_store_row rfl 54 _ _ rfl wr.heap.size #[.int .i64 s.lo, .int .i64 s.hi] rfl rfl 54 _ HBX.out infoSp rfl (by simp [Value.oneCell']) ?_))
          go_roundw
          case rel => exact ⟨k + 1, by omega, by go_num, by rw [HE.out]; exact HBR.out, HBN.out⟩
          case measure => simp [intOf]; omega
        · obtain rfl : k = x.rain.length := by omega
          have hss := upTo_all (x := x) (h := h) hlt
          generalize upTo x h i x.rain.length = s at *
          have HE := Lib.hid (spV_take hss)
          have HOy := Lib.hid ((owns_up HO.out HBy.out).alloc (.cells #[.int .i64 s.lo, .int .i64 s.hi] 54))
          have HBw := Lib.hid (HB.out.trans (HBy.out.mono HB.out.size))
          have HBa := Lib.hid (HBw.out.alloc HBw.out.size (.cells #[.int .i64 s.lo, .int .i64 s.hi] 54))
          have HNC := Lib.hid (sp_new wy s)
          clear hkl hk hss
          go_wp2_with (first | (refine wpList_load_rowW (by first | (go_simp; done) | rfl) 54 _ rfl _ rfl 54 _ _ _ HBX.out undSp rfl infoSp ?_) | (at_builtin; refine Hid.out ?_))
          refine Lib.hid ?_
          refine wpList_append_own _ rfl _ _ 50 rfl w0.heap.size 54 ic zc 2 ic.bytes undSs hic hzc hsz rfl hcz (by decide) _ i _ rfl HOy.out ⟨wy.heap.size, 0, none⟩ 1 1 [.int .i64 s.lo, .int .i64 s.hi] rfl rfl HNC.out (by simp [Value.oneCell']) (by unfold maxLen; omega) (by rw [hbc]; omega) HBa.out.size ?_
          intro v' w5 hown5 hgr5 _
          have HO5 : Hid (w5.ownsRow w0.heap.size 54 2 v' (i + 1) (spV ((atL x h n).take (i + 1)))) := Lib.hid (by
            rw [HE.out]
            exact hown5)
          have HB5 := Lib.hid (HBa.out.grown hgr5 HBa.out.size (fun q e => (HOy.out.lt q e).1))
          clear hown5 hgr5 c1 c2
          go_wp2_with fail
          go_roundw
          case rel => exact ⟨i + 1, by omega, by go_num, HO5.out, HB5.out⟩
          case measure => simp [intOf]; omega
    · obtain rfl : i = n := by omega
      rw [List.take_of_length_le (by rw [atL_len]; exact Nat.le_refl _)] at HO
      clear hlt hi
      go_wp2_with fail
      go_ret
      exact ⟨_, rfl, row_base HO.out HB0.out.size, HB0.out.trans (HB.out.mono HB0.out.size)⟩
theorem atL_I {x : CastV} {h : Int} {n : Nat} (hI : ∀ r ∈ x.rain, SpanI r) : SpanI (atL x h n) := by
  have hz : ∀ s ∈ zerosS n, I64 s.lo ∧ I64 s.hi := fun s hs => by
    unfold zerosS at hs
    rw [List.eq_of_mem_replicate hs]
    exact ⟨⟨by decide, by decide⟩, ⟨by decide, by decide⟩⟩
  intro s hs
  unfold atL at hs
  split at hs
  · exact hz s hs
  · split at hs
    · rename_i r hrr
      rcases List.mem_append.1 hs with h1 | h1
      · exact hI r (List.mem_of_getElem? hrr) s (List.mem_of_mem_take h1)
      · exact hz s (List.mem_of_mem_drop h1)
    · exact hz s hs
set_option maxRecDepth 100000 in
set_option maxHeartbeats 4000000 in
theorem rcovers_any (x : CastV) (v0 : Value) (h : Int) (fall : List Int) (vf : Value) (w : World) (hr : LArg (RList RSpan 2) 1 v0 x.rain w) (hh : I64 h) (hs : I64 x.src) (hI : ∀ r ∈ x.rain, SpanI r) (hf : LArg RInt 1 vf fall w) :
    Calls Try.prog 29 #[.agg #[.int .i64 x.id, .int .i64 x.src, v0], .int .i64 h, vf] w (RetB (coversB x h fall) w) := by
  obtain ⟨a0, q0, rfl, -, -⟩ := hr.slice
  obtain ⟨af, qf, rfl, hqf, hqm⟩ := hf.slice
  unfold maxLen at hqm
  have HR := Lib.hid hr
  have HF := Lib.hid hf
  clear hr hf
  go_enter Try.func29, Try.ntmps29
  go_upto_region 1 with fail
  have HC0 := Lib.hid (heap_alloc_new w (.cells #[.int .i64 x.id, .int .i64 x.src, .slice a0 x.rain.length q0] 27))
  have HB0 := Lib.hid ((Below.refl w.heap.size w).alloc (Nat.le_refl _) (.cells #[.int .i64 x.id, .int .i64 x.src, .slice a0 x.rain.length q0] 27))
  generalize w.alloc (.cells #[.int .i64 x.id, .int .i64 x.src, .slice a0 x.rain.length q0] 27) = w0 at *
  go_wp2_with (refine wpList_load_rowW (by first | (go_simp; done) | rfl) 27 _ rfl _ rfl 27 _ _ _ HC0.out undKs rfl infoKs ?_)
  have hat := rat_own x (.slice a0 x.rain.length q0) h 64 w0 (HR.out.below (stays_list stays_Span 2) HB0.out) hh hs (by omega) (by omega)
  refine hat.mono ?_
  rintro e w1 ⟨v1, rfl, hown, hb⟩
  have hL := larg_spans hown (atL_len x h 64) (atL_I hI)
  obtain ⟨al, cl, rfl, -, -⟩ := hL.slice
  have HL := Lib.hid hL
  rw [atL_len] at HL ⊢
  have HB1 := Lib.hid (HB0.out.trans (hb.mono HB0.out.size))
  clear hb hown hat hL HC0
  go_wp2_with fail
  go_loopw [8, 9, 10] (fun iv _ _ wr => ∃ k : Nat, k ≤ 64 ∧ iv = .int .i64 k ∧ (∀ (i : Nat) (t : SpanV), i < k → (atL x h 64)[i]? = some t → t.lo ≤ (fall[i]?).getD 0 ∧ (fall[i]?).getD 0 ≤ t.hi) ∧ Below w1.heap.size w1 wr) (fun iv _ _ _ => 64 - (intOf iv).toNat)
  case atStart => exact ⟨0, Nat.zero_le _, rfl, (fun i t hi => by omega), Below.refl _ _⟩
  case round =>
    obtain ⟨k, hk, rfl, hall, hB⟩ := hrel
    have HALL := Lib.hid hall
    have HB := Lib.hid hB
    clear hall hB
    have HLN := atL_len x h 64
    by_cases hlt : k < 64
    · have hlt' : (k : Int) < 64 := by omega
      obtain ⟨s, hss⟩ : ∃ s, (atL x h 64)[k]? = some s := ⟨_, List.getElem?_eq_getElem (by rw [HLN]; exact hlt)⟩
      have HSS := Lib.hid hss
      have hL2 := HL.out.below stays_Span HB.out
      obtain ⟨g, o, cs, ha, hbl, -, hrg, rfl, -, -⟩ := hL2.at hss
      subst ha
      have HRG := Lib.hid hrg
      have HBw := Lib.hid (HB1.out.trans (HB.out.mono HB1.out.size))
      clear hss hrg HLN hL2
      go_upto_if 23 with (fail)
      obtain ⟨z, hz⟩ : ∃ z, z = (fall[k]?).getD 0 := ⟨_, rfl⟩
      have HZ := Lib.hid hz
      clear hz
      go_cut [9] (fun v wx => v = .int .i64 z ∧ wx = wr)
      case first =>
        by_cases hkf : k < fall.length
        · obtain ⟨n, hn⟩ : ∃ n, fall[k]? = some n := ⟨_, List.getElem?_eq_getElem hkf⟩
          obtain ⟨gf, of, csf, haf, hblf, -, hrgf, rfl, -, -⟩ := (HF.out.below stays_int HBw.out).at hn
          subst haf
          have cf := hrgf 0 _ rfl
          simp only [Nat.mul_one, Nat.add_zero] at cf
          have hkf' : (k : Int) < (fall.length : Int) := by omega
          have HZN : Hid (z = n) := Lib.hid (by rw [HZ.out, hn]; rfl)
          clear hrgf hn
          go_wp2_with fail
          go_meet
          exact ⟨by rw [HZN.out], rfl⟩
        · have hkf' : ¬ (k : Int) < (fall.length : Int) := by omega
          have HZN : Hid (z = 0) := Lib.hid (by rw [HZ.out, List.getElem?_eq_none (by omega)]; rfl)
          go_wp2_with fail
          go_meet
          exact ⟨by rw [HZN.out], rfl⟩
      case rest =>
        obtain ⟨rfl, hwc⟩ := hcut
        have hwc2 := hwc.symm
        subst hwc2
        go_wp2_with (refine wpList_load_range (by first | (go_simp; done) | rfl) 54 _ rfl _ _ rfl _ _ HRG.out undSp rfl infoSp ?_)
        refine (rhas_any s z _).mono ?_
        rintro e w4 ⟨rfl, hb4⟩
        have HB4 := Lib.hid (HB.out.trans (hb4.mono HB.out.size))
        clear hb4 HRG
        cases hH : hasS s z
        · have HE : Hid (coversB x h fall = false) := Lib.hid (by
            refine coversB_no (fun hc => ?_)
            have := hc.2 k s HSS.out
            rw [← HZ.out] at this
            rw [hasS_iff.2 this] at hH
            cases hH)
          clear hH
          go_wp2_with fail
          go_ret
          exact retB_mk HE.out (HB1.out.trans (HB4.out.mono HB1.out.size))
        · have HNX := Lib.hid (covers_succ HALL.out HSS.out (by rw [← HZ.out]; exact hH))
          clear hH
          go_wp2_with fail
          go_roundw
          case rel => exact ⟨k + 1, by omega, by go_num, HNX.out, HB4.out⟩
          case measure => simp [intOf]; omega
    · obtain rfl : k = 64 := by omega
      have HA : Hid (coversL (atL x h 64) fall) := Lib.hid (fun i s hi => HALL.out i s (by have := (List.getElem?_eq_some_iff.1 hi).1; rw [HLN] at this; exact this) hi)
      clear hlt hk HLN
      by_cases hl : fall.length ≤ 64
      · have t1 : (fall.length : Int) ≤ 64 := by omega
        have HE : Hid (coversB x h fall = true) := Lib.hid (coversB_yes ⟨hl, HA.out⟩)
        go_wp2_with fail
        go_ret
        exact retB_mk HE.out (HB1.out.trans (HB.out.mono HB1.out.size))
      · have t1 : ¬ (fall.length : Int) ≤ 64 := by omega
        have HE : Hid (coversB x h fall = false) := Lib.hid (coversB_no (fun hc => hl hc.1))
        go_wp2_with fail
        go_ret
        exact retB_mk HE.out (HB1.out.trans (HB.out.mono HB1.out.size))
end Go.Proofs.Ytleiiedacachjaa
