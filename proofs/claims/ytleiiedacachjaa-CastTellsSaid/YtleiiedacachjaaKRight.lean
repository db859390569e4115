/- cast.Right, at the basin without anything but places. -/
import Derived.Test.YtleiiedacachjaaKCov
namespace Go.Proofs.Ytleiiedacachjaa
open Go.RowKit
def okSp (s : SpanV) : Prop := s.lo ≤ s.hi ∧ 0 ≤ s.lo ∧ s.hi ≤ 1125899906842624
def okRow (np : Nat) (r : List SpanV) : Prop := r.length = np ∧ ∀ s ∈ r, okSp s
def rightC (np : Nat) (x : CastV) : Prop := (0 ≤ x.id ∧ x.id ≤ 1073741824) ∧ (0 ≤ x.src ∧ x.src ≤ 16777216) ∧ x.rain.length ≤ 24 ∧ ∀ r ∈ x.rain, okRow np r
open Classical in
noncomputable def rightB (np : Nat) (x : CastV) : Bool := decide (rightC np x)
open Classical in
theorem rightB_no {np : Nat} {x : CastV} (h : ¬ rightC np x) : rightB np x = false := by
  unfold rightB
  exact decide_eq_false h
open Classical in
theorem rightB_yes {np : Nat} {x : CastV} (h : rightC np x) : rightB np x = true := by
  unfold rightB
  exact decide_eq_true h
open Classical in
theorem rightB_iff {np : Nat} {x : CastV} : rightB np x = true ↔ rightC np x := by
  unfold rightB
  exact decide_eq_true_iff
theorem two_rowsK {w : World} {A B : Obj} : ((w.alloc A).alloc B).heap[w.heap.size]? = some A ∧ ((w.alloc A).alloc B).heap[w.heap.size + 1]? = some B ∧ Below w.heap.size w ((w.alloc A).alloc B) := by
  have s1 : (w.alloc A).heap.size = w.heap.size + 1 := by simp
  have h2 := heap_alloc_new (w.alloc A) B
  rw [s1] at h2
  have h1 := heap_alloc_new w A
  have hb : Below (w.alloc A).heap.size (w.alloc A) ((w.alloc A).alloc B) := (Below.refl _ _).alloc (Nat.le_refl _) _
  exact ⟨blk_below h1 hb (blk_lt h1), h2, ((Below.refl _ _).alloc (Nat.le_refl _) A).trans (hb.mono (by rw [s1]; omega))⟩
theorem upto_succ {α : Type} {P : α → Prop} {l : List α} {k : Nat} {x : α} (h : ∀ (i : Nat) y, i < k → l[i]? = some y → P y) (hx : l[k]? = some x) (h1 : P x) : ∀ (i : Nat) y, i < k + 1 → l[i]? = some y → P y := fun i y hi hy => by
  rcases Nat.lt_or_eq_of_le (show i ≤ k by omega) with h6 | rfl
  · exact h i y h6 hy
  · rw [hx] at hy; cases hy; exact h1
theorem upto_all {α : Type} {P : α → Prop} {l : List α} (h : ∀ (i : Nat) y, i < l.length → l[i]? = some y → P y) : ∀ y ∈ l, P y := fun y hy => by
  obtain ⟨i, hi⟩ := List.getElem?_of_mem hy
  exact h i y (List.getElem?_eq_some_iff.1 hi).1 hi
set_option maxRecDepth 100000 in
set_option maxHeartbeats 4000000 in
theorem right_any (np cb : Nat) (pb : Option Addr) (x : CastV) (v0 : Value) (w : World) (hr : LArg (RList RSpan 2) 1 v0 x.rain w) (hnp : np ≤ 9223372036854775807) :
    Calls Try.prog 16 #[.agg #[.string ⟨#[]⟩, .slice none 0 0, .int .i64 0, .slice pb np cb, .slice none 0 0, .slice none 0 0, .slice none 0 0, .slice none 0 0, .slice none 0 0, .slice none 0 0, .int .i64 0], .agg #[.int .i64 x.id, .int .i64 x.src, v0]] w (RetB (rightB np x) w) := by
  obtain ⟨a0, q0, rfl, hq0, hqm⟩ := hr.slice
  unfold maxLen at hqm
  obtain ⟨r0, r1, rb⟩ := two_rowsK (w := w) (A := .cells #[.string ⟨#[]⟩, .slice none 0 0, .int .i64 0, .slice pb np cb, .slice none 0 0, .slice none 0 0, .slice none 0 0, .slice none 0 0, .slice none 0 0, .slice none 0 0, .int .i64 0] 48) (B := .cells #[.int .i64 x.id, .int .i64 x.src, .slice a0 x.rain.length q0] 27)
  have HR := Lib.hid hr
  clear hr
  go_enter Try.func16, Try.ntmps16
  go_upto_region 1 with fail
  generalize (w.alloc (.cells #[.string ⟨#[]⟩, .slice none 0 0, .int .i64 0, .slice pb np cb, .slice none 0 0, .slice none 0 0, .slice none 0 0, .slice none 0 0, .slice none 0 0, .slice none 0 0, .int .i64 0] 48)).alloc (.cells #[.int .i64 x.id, .int .i64 x.src, .slice a0 x.rain.length q0] 27) = w0 at *
  have HB0 := Lib.hid rb
  have HRB := Lib.hid r0
  have c0 := rowN r1 0 (.int .i64 x.id) rfl
  have c1 := rowN r1 1 (.int .i64 x.src) rfl
  have c2 := rowN r1 2 (.slice a0 x.rain.length q0) rfl
  clear r0 r1 rb
  by_cases t1 : x.id < 0
  · have HE : Hid (rightB np x = false) := Lib.hid (rightB_no (fun hc => by have := hc.1.1; omega))
    go_wp2_with fail
    go_ret
    exact retB_mk HE.out HB0.out
  by_cases t2 : (1073741824 : Int) < x.id
  · have HE : Hid (rightB np x = false) := Lib.hid (rightB_no (fun hc => by have := hc.1.2; omega))
    go_wp2_with fail
    go_ret
    exact retB_mk HE.out HB0.out
  by_cases t3 : x.src < 0
  · have HE : Hid (rightB np x = false) := Lib.hid (rightB_no (fun hc => by have := hc.2.1.1; omega))
    go_wp2_with fail
    go_ret
    exact retB_mk HE.out HB0.out
  by_cases t4 : (16777216 : Int) < x.src
  · have HE : Hid (rightB np x = false) := Lib.hid (rightB_no (fun hc => by have := hc.2.1.2; omega))
    go_wp2_with fail
    go_ret
    exact retB_mk HE.out HB0.out
  by_cases t5 : (24 : Int) < (x.rain.length : Int)
  · have HE : Hid (rightB np x = false) := Lib.hid (rightB_no (fun hc => by have := hc.2.2.1; omega))
    go_wp2_with fail
    go_ret
    exact retB_mk HE.out HB0.out
  have HHD : Hid ((0 ≤ x.id ∧ x.id ≤ 1073741824) ∧ (0 ≤ x.src ∧ x.src ≤ 16777216) ∧ x.rain.length ≤ 24) := Lib.hid ⟨⟨by omega, by omega⟩, ⟨by omega, by omega⟩, by omega⟩
  go_wp2_with fail
  clear t1 t2 t3 t4 t5 c0 c1 c2
  go_loopw [36] (fun iv wr => ∃ k : Nat, k ≤ x.rain.length ∧ iv = .int .i64 k ∧ (∀ (i : Nat) (r : List SpanV), i < k → x.rain[i]? = some r → okRow np r) ∧ Below w0.heap.size w0 wr) (fun iv _ => x.rain.length - (intOf iv).toNat)
  case atStart => exact ⟨0, Nat.zero_le _, rfl, (fun i r hi => by omega), Below.refl _ _⟩
  case round =>
    rename World => w2
    obtain ⟨k, hk, rfl, hall, hB⟩ := hrel
    have HALL := Lib.hid hall
    have HB := Lib.hid hB
    clear hall hB
    by_cases hlt : k < x.rain.length
    · obtain ⟨r, hrr⟩ : ∃ r, x.rain[k]? = some r := ⟨_, List.getElem?_eq_getElem hlt⟩
      obtain ⟨g, o, cs, ha, hbl, -, hrg, v, rfl, hrow⟩ := (HR.out.below (stays_list stays_Span 2) (HB0.out.trans (HB.out.mono HB0.out.size))).at hrr
      subst ha
      obtain ⟨a1, q1, rfl, hq1, hq2⟩ := hrow.slice
      unfold maxLen at hq2
      have ce := hrg 0 _ rfl
      simp only [Nat.mul_one, Nat.add_zero] at ce
      have HROW := Lib.hid hrow
      have HRR := Lib.hid hrr
      have HBE := Lib.hid (HB0.out.trans (HB.out.mono HB0.out.size))
      have b3 := rowN (blk_below HRB.out HB.out (blk_lt HRB.out)) 3 (.slice pb np cb) rfl
      clear hrg hrow hrr
      by_cases hn : r.length = np
      rotate_left 1
      · have q1 : ((r.length : Int) != (np : Int)) = true := by rw [bne_iff_ne]; omega
        have HE : Hid (rightB np x = false) := Lib.hid (rightB_no (fun hc => hn (hc.2.2.2 r (List.mem_of_getElem? HRR.out)).1))
        clear hn
        go_wp2_with fail
        go_ret
        exact retB_mk HE.out HBE.out
      · have q1' : ((r.length : Int) != (np : Int)) = false := by rw [hn]; simp
        go_wp2_with fail
        clear ce b3 q1'
        go_loopw [48] (fun iv wy => ∃ j : Nat, j ≤ r.length ∧ iv = .int .i64 j ∧ (∀ (i : Nat) (s : SpanV), i < j → r[i]? = some s → okSp s) ∧ Below w2.heap.size w2 wy) (fun iv _ => r.length - (intOf iv).toNat)
        case atStart => exact ⟨0, Nat.zero_le _, rfl, (fun i s hi => by omega), Below.refl _ _⟩
        case round =>
          obtain ⟨j, hj, rfl, hsp, hBy⟩ := hrel
          have HSP := Lib.hid hsp
          have HBy := Lib.hid hBy
          clear hsp hBy
          by_cases hjl : j < r.length
          · obtain ⟨s, hs⟩ : ∃ s, r[j]? = some s := ⟨_, List.getElem?_eq_getElem hjl⟩
            obtain ⟨g1, o1, cs1, ha1, hbl1, -, hrg1, hcs1⟩ := (HROW.out.below stays_Span HBy.out).at hs
            subst ha1
            obtain ⟨rfl, -, -⟩ := hcs1
            have HSS := Lib.hid hs
            have HRG := Lib.hid hrg1
            have HS3 := Lib.hid (heap_alloc_new wr (.cells #[.int .i64 s.lo, .int .i64 s.hi] 54))
            have HB3 := Lib.hid (HBy.out.alloc HBy.out.size (.cells #[.int .i64 s.lo, .int .i64 s.hi] 54))
            clear hrg1 hs
            go_upto_region 11 with (refine wpList_load_range (by first | (go_simp; done) | rfl) 54 _ rfl _ _ rfl _ _ HRG.out undSp rfl infoSp ?_)
            clear HRG
            generalize wr.alloc (.cells #[.int .i64 s.lo, .int .i64 s.hi] 54) = w4 at *
            generalize wr.heap.size = bs at *
            go_wp2_with (refine wpList_load_rowW (by first | (go_simp; done) | rfl) 54 _ rfl _ rfl 54 _ _ _ HS3.out undSp rfl infoSp ?_)
            refine (rightS_any s _).mono ?_
            rintro e w5 ⟨rfl, hb5⟩
            have HS5 := Lib.hid (blk_below HS3.out hb5 (blk_lt HS3.out))
            have HB5 := Lib.hid (HB3.out.trans (hb5.mono HB3.out.size))
            have HF5 := Lib.hid (HBE.out.trans ((HB3.out.trans (hb5.mono HB3.out.size)).mono HBE.out.size))
            clear hb5 HS3 HB3
            have s0 := rowN HS5.out 0 (.int .i64 s.lo) rfl
            have s1 := rowN HS5.out 1 (.int .i64 s.hi) rfl
            have HNO : Hid (¬ okSp s → rightB np x = false) := Lib.hid fun hns => rightB_no (fun hc => hns ((hc.2.2.2 r (List.mem_of_getElem? HRR.out)).2 s (List.mem_of_getElem? HSS.out)))
            cases h1 : decide (s.lo ≤ s.hi)
            · have HE := Lib.hid (HNO.out (fun hc => by have := of_decide_eq_false h1; exact this hc.1))
              clear h1
              go_wp2_with fail
              go_ret
              exact retB_mk HE.out HF5.out
            · have h1' := of_decide_eq_true h1
              clear h1
              by_cases h2 : s.lo < 0
              · have HE := Lib.hid (HNO.out (fun hc => by have := hc.2.1; omega))
                go_wp2_with fail
                go_ret
                exact retB_mk HE.out HF5.out
              · by_cases h3 : (1125899906842624 : Int) < s.hi
                · have HE := Lib.hid (HNO.out (fun hc => by have := hc.2.2; omega))
                  go_wp2_with fail
                  go_ret
                  exact retB_mk HE.out HF5.out
                · have HNX := Lib.hid (upto_succ (P := okSp) HSP.out HSS.out ⟨h1', by omega, by omega⟩)
                  go_wp2_with fail
                  go_roundw
                  case rel => exact ⟨j + 1, by omega, by go_num, HNX.out, HB5.out⟩
                  case measure => simp [intOf]; omega
          · obtain rfl : j = r.length := by omega
            have HNX := Lib.hid (upto_succ (P := okRow np) HALL.out HRR.out ⟨hn, upto_all HSP.out⟩)
            have HBN := Lib.hid (HB.out.trans (HBy.out.mono HB.out.size))
            clear hjl hj
            go_wp2_with fail
            go_roundw
            case rel => exact ⟨k + 1, by omega, by go_num, HNX.out, HBN.out⟩
            case measure => simp [intOf]; omega
    · obtain rfl : k = x.rain.length := by omega
      have HE : Hid (rightB np x = true) := Lib.hid (rightB_yes ⟨HHD.out.1, HHD.out.2.1, HHD.out.2.2, upto_all HALL.out⟩)
      clear hlt hk
      go_wp2_with fail
      go_ret
      exact retB_mk HE.out (HB0.out.trans (HB.out.mono HB0.out.size))
end Go.Proofs.Ytleiiedacachjaa
