/- span.Has, span.Right, cast.Covers. -/
import Derived.Test.YtleiiedacachjaaKAt
namespace Go.Proofs.Ytleiiedacachjaa
open Go.RowKit
def RetB (b : Bool) (w : World) (e : Ending) (w' : World) : Prop := e = .returned (.bool b) ∧ Below w.heap.size w w'
theorem retB_mk {b c : Bool} {w w' : World} (h : b = c) (hb : Below w.heap.size w w') : RetB b w (.returned (.bool c)) w' := by subst h; exact ⟨rfl, hb⟩
def hasS (s : SpanV) (n : Int) : Bool := decide (s.lo ≤ n) && decide (n ≤ s.hi)
theorem hasS_iff {s : SpanV} {n : Int} : hasS s n = true ↔ s.lo ≤ n ∧ n ≤ s.hi := by unfold hasS; simp
set_option maxRecDepth 100000 in
set_option maxHeartbeats 1000000 in
theorem has_any (s : SpanV) (n : Int) (w : World) : Calls Try.prog 20 #[.agg #[.int .i64 s.lo, .int .i64 s.hi], .int .i64 n] w (RetB (hasS s n) w) := by
  by_cases h1 : s.lo ≤ n
  · by_cases h2 : n ≤ s.hi
    · have HE : Hid (hasS s n = true) := Lib.hid (hasS_iff.2 ⟨h1, h2⟩)
      go_enter Try.func20, Try.ntmps20
      go_wp2_with fail
      go_ret
      exact retB_mk HE.out ((Below.refl _ _).alloc (Nat.le_refl _) _)
    · have HE : Hid (hasS s n = false) := Lib.hid (by unfold hasS; simp [h2])
      go_enter Try.func20, Try.ntmps20
      go_wp2_with fail
      go_ret
      exact retB_mk HE.out ((Below.refl _ _).alloc (Nat.le_refl _) _)
  · have HE : Hid (hasS s n = false) := Lib.hid (by unfold hasS; simp [h1])
    go_enter Try.func20, Try.ntmps20
    go_wp2_with fail
    go_ret
    exact retB_mk HE.out ((Below.refl _ _).alloc (Nat.le_refl _) _)
set_option maxRecDepth 100000 in
set_option maxHeartbeats 1000000 in
theorem rightS_any (s : SpanV) (w : World) : Calls Try.prog 39 #[.agg #[.int .i64 s.lo, .int .i64 s.hi]] w (RetB (decide (s.lo ≤ s.hi)) w) := by
  go_enter Try.func39, Try.ntmps39
  go_wp2_with fail
  go_ret
  exact retB_mk rfl ((Below.refl _ _).alloc (Nat.le_refl _) _)
theorem undKs : Try.prog.underlying 27 = some (.struct (Try.prog.fieldsOf 27)) := by kernel_rfl
theorem infoKs : (Try.prog.info? 27).map (·.size) = some 3 := by kernel_rfl
/-- the spans of an hour admit these volumes -/
def coversL (l : List SpanV) (fall : List Int) : Prop := ∀ (i : Nat) (s : SpanV), l[i]? = some s → s.lo ≤ (fall[i]?).getD 0 ∧ (fall[i]?).getD 0 ≤ s.hi
open Classical in
noncomputable def coversB (x : CastV) (h : Int) (fall : List Int) : Bool := decide (fall.length ≤ 64 ∧ coversL (atL x h 64) fall)
open Classical in
theorem coversB_no {x : CastV} {h : Int} {fall : List Int} (hn : ¬ (fall.length ≤ 64 ∧ coversL (atL x h 64) fall)) : coversB x h fall = false := by
  unfold coversB
  exact decide_eq_false hn
open Classical in
theorem coversB_yes {x : CastV} {h : Int} {fall : List Int} (hn : fall.length ≤ 64 ∧ coversL (atL x h 64) fall) : coversB x h fall = true := by
  unfold coversB
  exact decide_eq_true hn
open Classical in
theorem coversB_iff {x : CastV} {h : Int} {fall : List Int} : coversB x h fall = true ↔ fall.length ≤ 64 ∧ coversL (atL x h 64) fall := by
  unfold coversB
  exact decide_eq_true_iff
theorem range_sp {w : World} {b k : Nat} {l : List SpanV} {s : SpanV} (h : w.heap[b]? = some (.cells (spV l).toArray 54 (0, 0))) (hs : l[k]? = some s) : w.rangeAt b (k * 2) [.int .i64 s.lo, .int .i64 s.hi] := by
  obtain ⟨h1, h2⟩ := spV_get l k s hs
  exact range2 (rowN h _ _ (by rw [← Array.getElem?_toList]; exact h1)) (rowN h _ _ (by rw [← Array.getElem?_toList]; exact h2))
theorem covers_succ {l : List SpanV} {fall : List Int} {k : Nat} {s : SpanV} (h : ∀ (i : Nat) (t : SpanV), i < k → l[i]? = some t → t.lo ≤ (fall[i]?).getD 0 ∧ (fall[i]?).getD 0 ≤ t.hi) (hs : l[k]? = some s) (h1 : hasS s ((fall[k]?).getD 0) = true) :
    ∀ (i : Nat) (t : SpanV), i < k + 1 → l[i]? = some t → t.lo ≤ (fall[i]?).getD 0 ∧ (fall[i]?).getD 0 ≤ t.hi := fun i t hi ht => by
  rcases Nat.lt_or_eq_of_le (show i ≤ k by omega) with h6 | rfl
  · exact h i t h6 ht
  · rw [hs] at ht; cases ht; exact hasS_iff.1 h1
set_option maxRecDepth 100000 in
set_option maxHeartbeats 4000000 in
theorem covers_any (x : CastV) (v0 : Value) (h : Int) (fall : List Int) (vf : Value) (w : World) (hr : LArg (RList RSpan 2) 1 v0 x.rain w) (hh : I64 h) (hs : I64 x.src) (hf : LArg RInt 1 vf fall w) :
    Calls Try.prog 19 #[.agg #[.int .i64 x.id, .int .i64 x.src, v0], .int .i64 h, vf] w (RetB (coversB x h fall) w) := by
  obtain ⟨a0, q0, rfl, -, -⟩ := hr.slice
  obtain ⟨af, qf, rfl, hqf, hqm⟩ := hf.slice
  unfold maxLen at hqm
  have HR := Lib.hid hr
  have HF := Lib.hid hf
  clear hr hf
  go_enter Try.func19, Try.ntmps19
  go_upto_region 1 with fail
  have HC0 := Lib.hid (heap_alloc_new w (.cells #[.int .i64 x.id, .int .i64 x.src, .slice a0 x.rain.length q0] 27))
  have HB0 := Lib.hid ((Below.refl w.heap.size w).alloc (Nat.le_refl _) (.cells #[.int .i64 x.id, .int .i64 x.src, .slice a0 x.rain.length q0] 27))
  generalize w.alloc (.cells #[.int .i64 x.id, .int .i64 x.src, .slice a0 x.rain.length q0] 27) = w0 at *
  by_cases hl : fall.length ≤ 64
  rotate_left 1
  · have t1 : (64 : Int) < (fall.length : Int) := by omega
    have HE : Hid (coversB x h fall = false) := Lib.hid (coversB_no (fun hc => hl hc.1))
    clear hl
    go_wp2_with fail
    go_ret
    exact retB_mk HE.out HB0.out
  · have t1 : ¬ (64 : Int) < (fall.length : Int) := by omega
    go_wp2_with (refine wpList_load_rowW (by first | (go_simp; done) | rfl) 27 _ rfl _ rfl 27 _ _ _ HC0.out undKs rfl infoKs ?_)
    refine (at_any x (.slice a0 x.rain.length q0) h 64 _ (HR.out.below (stays_list stays_Span 2) HB0.out) hh hs (by omega) (by omega)).mono ?_
    rintro e w1 ⟨b, rfl, hle, hrow, hb⟩
    have HRow := Lib.hid hrow
    have HB1 := Lib.hid (HB0.out.trans (hb.mono HB0.out.size))
    have HLN := Lib.hid (atL_len x h 64)
    clear hb hrow HC0 HB0 t1
    go_wp2_with fail
    rw [HLN.out]
    go_loopw [17] (fun iv wr => ∃ k : Nat, k ≤ 64 ∧ iv = .int .i64 k ∧ (∀ (i : Nat) (t : SpanV), i < k → (atL x h 64)[i]? = some t → t.lo ≤ (fall[i]?).getD 0 ∧ (fall[i]?).getD 0 ≤ t.hi) ∧ Below w1.heap.size w1 wr) (fun iv _ => 64 - (intOf iv).toNat)
    case atStart => exact ⟨0, Nat.zero_le _, rfl, (fun i t hi => by omega), Below.refl _ _⟩
    case round =>
      obtain ⟨k, hk, rfl, hall, hB⟩ := hrel
      have HALL := Lib.hid hall
      have HB := Lib.hid hB
      clear hall hB
      by_cases hlt : k < 64
      · have hlt' : (k : Int) < 64 := by omega
        obtain ⟨s, hss⟩ : ∃ s, (atL x h 64)[k]? = some s := ⟨_, List.getElem?_eq_getElem (by rw [HLN.out]; exact hlt)⟩
        have HSS := Lib.hid hss
        have HRr := Lib.hid (blk_below HRow.out HB.out (blk_lt HRow.out))
        have HRG := Lib.hid (range_sp HRr.out hss)
        have HBw := Lib.hid (HB1.out.trans (HB.out.mono HB1.out.size))
        have HS3 := Lib.hid (heap_alloc_new wr (.cells #[.int .i64 s.lo, .int .i64 s.hi] 54))
        have HB3 := Lib.hid (HB.out.alloc HB.out.size (.cells #[.int .i64 s.lo, .int .i64 s.hi] 54))
        have HW3 := Lib.hid (HBw.out.alloc HBw.out.size (.cells #[.int .i64 s.lo, .int .i64 s.hi] 54))
        clear hss
        go_upto_region 6 with (refine wpList_load_range (by first | (go_simp; done) | rfl) 54 _ rfl _ _ rfl _ _ HRG.out undSp rfl infoSp ?_)
        clear HRG HRr HBw
        generalize wr.alloc (.cells #[.int .i64 s.lo, .int .i64 s.hi] 54) = w3 at *
        generalize wr.heap.size = bs at *
        by_cases hkf : k < fall.length
        · obtain ⟨n, hn⟩ : ∃ n, fall[k]? = some n := ⟨_, List.getElem?_eq_getElem hkf⟩
          obtain ⟨gf, of, csf, haf, hblf, -, hrgf, rfl, -, -⟩ := (HF.out.below stays_int HW3.out).at hn
          subst haf
          have cf := hrgf 0 _ rfl
          simp only [Nat.mul_one, Nat.add_zero] at cf
          have hgn : (fall[k]?).getD 0 = n := by rw [hn]; rfl
          have HGN := Lib.hid hgn
          have hkf' : (k : Int) < (fall.length : Int) := by omega
          clear hrgf hn hgn
          go_wp2_with (refine wpList_load_rowW (by first | (go_simp; done) | rfl) 54 _ rfl _ rfl 54 _ _ _ HS3.out undSp rfl infoSp ?_)
          refine (has_any s n _).mono ?_
          rintro e w4 ⟨rfl, hb4⟩
          have HB4 := Lib.hid (HB3.out.trans (hb4.mono HB3.out.size))
          clear hb4 cf
          cases hH : hasS s n
          · have HE : Hid (coversB x h fall = false) := Lib.hid (by
              refine coversB_no (fun hc => ?_)
              have := hc.2 k s HSS.out
              rw [HGN.out] at this
              rw [hasS_iff.2 this] at hH
              cases hH)
            clear hH
            go_wp2_with fail
            go_ret
            exact retB_mk HE.out (HB1.out.trans (HB4.out.mono HB1.out.size))
          · have HNX := Lib.hid (covers_succ HALL.out HSS.out (by rw [HGN.out]; exact hH))
            clear hH
            go_wp2_with fail
            go_roundw
            case rel => (repeat apply Exists.intro); exact ⟨⟨k + 1, by omega, by go_num, HNX.out, HB4.out⟩, rfl⟩
            case measure => simp [intOf]; omega
        · have hgn : (fall[k]?).getD 0 = 0 := by rw [List.getElem?_eq_none (by omega)]; rfl
          have HGN := Lib.hid hgn
          have hkf' : ¬ (k : Int) < (fall.length : Int) := by omega
          clear hgn
          go_wp2_with (refine wpList_load_rowW (by first | (go_simp; done) | rfl) 54 _ rfl _ rfl 54 _ _ _ HS3.out undSp rfl infoSp ?_)
          refine (has_any s 0 _).mono ?_
          rintro e w4 ⟨rfl, hb4⟩
          have HB4 := Lib.hid (HB3.out.trans (hb4.mono HB3.out.size))
          clear hb4
          cases hH : hasS s 0
          · have HE : Hid (coversB x h fall = false) := Lib.hid (by
              refine coversB_no (fun hc => ?_)
              have := hc.2 k s HSS.out
              rw [HGN.out] at this
              rw [hasS_iff.2 this] at hH
              cases hH)
            clear hH
            go_wp2_with fail
            go_ret
            exact retB_mk HE.out (HB1.out.trans (HB4.out.mono HB1.out.size))
          · have HNX := Lib.hid (covers_succ HALL.out HSS.out (by rw [HGN.out]; exact hH))
            clear hH
            go_wp2_with fail
            go_roundw
            case rel => (repeat apply Exists.intro); exact ⟨⟨k + 1, by omega, by go_num, HNX.out, HB4.out⟩, rfl⟩
            case measure => simp [intOf]; omega
      · obtain rfl : k = 64 := by omega
        have HE : Hid (coversB x h fall = true) := Lib.hid (by
          exact coversB_yes ⟨hl, fun i s hi => HALL.out i s (by have := (List.getElem?_eq_some_iff.1 hi).1; rw [HLN.out] at this; exact this) hi⟩)
        clear hlt hk
        go_wp2_with fail
        go_ret
        exact retB_mk HE.out (HB1.out.trans (HB.out.mono HB1.out.size))
end Go.Proofs.Ytleiiedacachjaa
