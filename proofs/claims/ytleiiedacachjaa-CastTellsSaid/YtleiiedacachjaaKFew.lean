/- bournelaw29.few. -/
import Derived.Test.YtleiiedacachjaaKAdm
import Derived.Test.YtleiiedacachjaaKRight
namespace Go.Proofs.Ytleiiedacachjaa
open Go.RowKit
open Classical in
noncomputable def fewB (xs : List NewsV) : Bool := decide (xs.length ≤ 40 ∧ ∀ x ∈ xs, FewN x)
open Classical in
theorem fewB_no {xs : List NewsV} (h : ¬ (xs.length ≤ 40 ∧ ∀ x ∈ xs, FewN x)) : fewB xs = false := by
  unfold fewB
  exact decide_eq_false h
open Classical in
theorem fewB_yes {xs : List NewsV} (h : xs.length ≤ 40 ∧ ∀ x ∈ xs, FewN x) : fewB xs = true := by
  unfold fewB
  exact decide_eq_true h
open Classical in
theorem fewB_iff {xs : List NewsV} : fewB xs = true ↔ (xs.length ≤ 40 ∧ ∀ x ∈ xs, FewN x) := by
  unfold fewB
  exact decide_eq_true_iff
set_option maxRecDepth 100000 in
set_option maxHeartbeats 4000000 in
theorem few_any (xs : List NewsV) (vs : List Value) (a : Option Addr) (c : Nat) (w : World) (hS : NewsS xs vs a w) (hm : xs.length ≤ 9223372036854775807) :
    Calls Try.prog 10 #[.slice a xs.length c] w (RetB (fewB xs) w) := by
  have HS := Lib.hid hS
  clear hS
  go_enter Try.func10, Try.ntmps10
  by_cases hl : xs.length ≤ 40
  rotate_left 1
  · have t1 : (40 : Int) < (xs.length : Int) := by omega
    have HE := Lib.hid (fewB_no (xs := xs) (fun hc => hl hc.1))
    clear hl
    go_wp2_with fail
    go_ret
    exact retB_mk HE.out (Below.refl _ _)
  · have t1 : ¬ (40 : Int) < (xs.length : Int) := by omega
    go_wp2_with fail
    clear t1
    go_loopw [3] (fun iv wr => ∃ k : Nat, k ≤ xs.length ∧ iv = .int .i64 k ∧ (∀ (i : Nat) (x : NewsV), i < k → xs[i]? = some x → FewN x) ∧ Below w.heap.size w wr) (fun iv _ => xs.length - (intOf iv).toNat)
    case atStart => exact ⟨0, Nat.zero_le _, rfl, (fun i x hi => by omega), Below.refl _ _⟩
    case round =>
      rename World => w2
      obtain ⟨k, hk, rfl, hall, hB⟩ := hrel
      have HALL := Lib.hid hall
      have HB := Lib.hid hB
      clear hall hB
      by_cases hlt : k < xs.length
      · obtain ⟨x, hx⟩ : ∃ x, xs[k]? = some x := ⟨_, List.getElem?_eq_getElem hlt⟩
        obtain ⟨u, b, o, hvu, ha, hbl, hrg, hru⟩ := (HS.out.below HB.out).2 k x hx
        subst ha
        obtain ⟨a1, q1, rfl, hq1, hq2⟩ := hru.slice
        unfold maxLen at hq2
        have c4 : w2.cell? ⟨b, o + k * 5 + 4, none⟩ = some (.slice a1 x.cast.rain.length q1) := hrg 4 _ rfl
        have HX := Lib.hid hx
        have HU := Lib.hid hru
        have hlt' : (k : Int) < (xs.length : Int) := by omega
        clear hx hvu hrg hru
        have HNO : Hid (¬ FewN x → fewB xs = false) := Lib.hid fun hn => fewB_no (fun hc => hn (hc.2 x (List.mem_of_getElem? HX.out)))
        by_cases h30 : x.cast.rain.length ≤ 30
        rotate_left 1
        · have t1 : (30 : Int) < (x.cast.rain.length : Int) := by omega
          have HE := Lib.hid (HNO.out (fun hc => h30 hc.1))
          clear h30
          go_wp2_with fail
          go_ret
          exact retB_mk HE.out HB.out
        · have t1 : ¬ (30 : Int) < (x.cast.rain.length : Int) := by omega
          go_wp2_with fail
          clear t1
          go_loopw [4] (fun iv wy => ∃ j : Nat, j ≤ x.cast.rain.length ∧ iv = .int .i64 j ∧ (∀ (i : Nat) (r : List SpanV), i < j → x.cast.rain[i]? = some r → r.length ≤ 70) ∧ w2 = wy) (fun iv _ => x.cast.rain.length - (intOf iv).toNat)
          case atStart => exact ⟨0, Nat.zero_le _, rfl, (fun i r hi => by omega), rfl⟩
          case round =>
            obtain ⟨j, hj, rfl, hsp, rfl⟩ := hrel
            have HSP := Lib.hid hsp
            clear hsp
            by_cases hjl : j < x.cast.rain.length
            · obtain ⟨r, hr⟩ : ∃ r, x.cast.rain[j]? = some r := ⟨_, List.getElem?_eq_getElem hjl⟩
              obtain ⟨g1, o1, cs1, ha1, hbl1, -, hrg1, v, rfl, hrow⟩ := HU.out.at hr
              subst ha1
              obtain ⟨a2, q2, rfl, hq3, hq4⟩ := hrow.slice
              unfold maxLen at hq4
              have ce := hrg1 0 _ rfl
              simp only [Nat.mul_one, Nat.add_zero] at ce
              have HR := Lib.hid hr
              have hjl' : (j : Int) < (x.cast.rain.length : Int) := by omega
              clear hrg1 hrow hr
              by_cases h70 : r.length ≤ 70
              rotate_left 1
              · have t1 : (70 : Int) < (r.length : Int) := by omega
                have HE := Lib.hid (HNO.out (fun hc => h70 (hc.2 r (List.mem_of_getElem? HR.out))))
                clear h70
                go_wp2_with fail
                go_ret
                exact retB_mk HE.out HB.out
              · have t1 : ¬ (70 : Int) < (r.length : Int) := by omega
                have HNX := Lib.hid (upto_succ (P := fun r : List SpanV => r.length ≤ 70) HSP.out HR.out h70)
                go_wp2_with fail
                go_roundw
                case rel => exact ⟨j + 1, by omega, by go_num, HNX.out, trivial⟩
                case measure => simp [intOf]; omega
            · obtain rfl : j = x.cast.rain.length := by omega
              have HNX := Lib.hid (upto_succ (P := FewN) HALL.out HX.out ⟨h30, upto_all HSP.out⟩)
              have hjl' : ¬ (x.cast.rain.length : Int) < (x.cast.rain.length : Int) := by omega
              clear hjl hj
              go_wp2_with fail
              go_roundw
              case rel => exact ⟨k + 1, by omega, by go_num, HNX.out, HB.out⟩
              case measure => simp [intOf]; omega
      · obtain rfl : k = xs.length := by omega
        have HE := Lib.hid (fewB_yes ⟨hl, upto_all HALL.out⟩)
        clear hlt hk
        go_wp2_with fail
        go_ret
        exact retB_mk HE.out HB.out
end Go.Proofs.Ytleiiedacachjaa
