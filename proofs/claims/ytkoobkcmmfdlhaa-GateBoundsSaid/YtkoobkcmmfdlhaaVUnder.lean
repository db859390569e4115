/- curve.Under. -/
import Derived.Test.YtkoobkcmmfdlhaaVAt
namespace Go.Proofs.Ytkoobkcmmfdlhaa
open Go.RowKit
def uA (b : List PointV) (p : PointV) : Bool := decide (p.y ≤ (value b p.x).1)
def uB (a : List PointV) (p : PointV) : Bool := decide ((value a p.x).1 < p.y) || (decide ((value a p.x).1 = p.y) && !(value a p.x).2)
theorem underC_eq (a b : List PointV) : underC a b = (rightC a && rightC b && a.all (uA b) && b.all (uB a)) := rfl
theorem all_of {l : List PointV} {f : PointV → Bool} (h : ∀ (j : Nat) (p : PointV), l[j]? = some p → f p = true) : l.all f = true := by
  rw [List.all_eq_true]
  intro p hp
  obtain ⟨i, hi⟩ := List.getElem?_of_mem hp
  exact h i p hi
theorem all_no {l : List PointV} {f : PointV → Bool} {j : Nat} {p : PointV} (hp : l[j]? = some p) (h : f p = false) : l.all f = false := by
  rw [List.all_eq_false]
  exact ⟨p, List.mem_of_getElem? hp, by rw [h]; simp⟩
theorem upto_succ {l : List PointV} {f : PointV → Bool} {k : Nat} {p : PointV} (hp : l[k]? = some p) (h : ∀ j q, j < k → l[j]? = some q → f q = true) (h1 : f p = true) : ∀ j q, j < k + 1 → l[j]? = some q → f q = true := fun j q hj hq => by
  rcases Nat.lt_or_eq_of_le (show j ≤ k by omega) with h2 | rfl
  · exact h j q h2 hq
  · rw [hp] at hq; cases hq; exact h1
set_option maxRecDepth 100000 in
set_option maxHeartbeats 8000000 in
theorem under_any (a b : List PointV) (va vb : Value) (w : World) (hA : LArg RPoint 2 va a w) (hB : LArg RPoint 2 vb b w) : Calls Try.prog 21 #[va, vb] w (RetB (underC a b) w) := by
  obtain ⟨pa, ca, rfl, hca, hma⟩ := hA.slice
  obtain ⟨pb, cb, rfl, hcb, hmb⟩ := hB.slice
  have HA := Lib.hid hA
  have HBB := Lib.hid hB
  clear hA hB hma hmb
  cases hr : rightC a
  · have HE : Hid (underC a b = false) := Lib.hid (by rw [underC_eq, hr]; rfl)
    have HR := Lib.hid hr
    clear hr
    go_enter Try.func21, Try.ntmps21
    go_wp2_with fail
    refine (right_any a _ _ HA.out).mono ?_
    rintro e w1 ⟨rfl, hb⟩
    rw [HR.out]
    go_wp2_with fail
    go_ret
    exact retB_mk HE.out hb
  cases hs : rightC b
  · have HE : Hid (underC a b = false) := Lib.hid (by rw [underC_eq, hr, hs]; rfl)
    have HR := Lib.hid hr
    have HS := Lib.hid hs
    clear hr hs
    go_enter Try.func21, Try.ntmps21
    go_wp2_with fail
    refine (right_any a _ _ HA.out).mono ?_
    rintro e w1 ⟨rfl, hb⟩
    rw [HR.out]
    go_wp2_with fail
    refine (right_any b _ _ (HBB.out.below stays_Point hb)).mono ?_
    rintro e w2 ⟨rfl, hb2⟩
    rw [HS.out]
    go_wp2_with fail
    go_ret
    exact retB_mk HE.out (hb.trans (hb2.mono hb.size))
  have hla := rightC_at hr
  have hlb := rightC_at hs
  have la2 := hla.2.1
  have lb2 := hlb.2.1
  have HR := Lib.hid hr
  have HS := Lib.hid hs
  clear hr hs hla hlb
  go_enter Try.func21, Try.ntmps21
  go_wp2_with fail
  refine (right_any a _ _ HA.out).mono ?_
  rintro e w1 ⟨rfl, hb⟩
  rw [HR.out]
  have HB1 := Lib.hid hb
  clear hb
  go_wp2_with fail
  refine (right_any b _ _ (HBB.out.below stays_Point HB1.out)).mono ?_
  rintro e w2 ⟨rfl, hb⟩
  rw [HS.out]
  have HB2 := Lib.hid (HB1.out.trans (hb.mono HB1.out.size))
  clear hb HB1
  go_wp2_with fail
  go_loopw [23] (fun iv wr => ∃ k : Nat, k ≤ a.length ∧ iv = .int .i64 k ∧ (∀ j q, j < k → a[j]? = some q → uA b q = true) ∧ Below w.heap.size w wr) (fun iv _ => a.length - (intOf iv).toNat)
  case atStart => exact ⟨0, Nat.zero_le _, rfl, (fun j q hj => by omega), HB2.out⟩
  case round =>
    obtain ⟨k, hk, rfl, hok, hb⟩ := hrel
    have HOK := Lib.hid hok
    have HBr := Lib.hid hb
    clear hok hb HB2
    by_cases hlt : k < a.length
    · obtain ⟨p, hp⟩ : ∃ p, a[k]? = some p := ⟨_, List.getElem?_eq_getElem hlt⟩
      obtain ⟨bk, o, cs, ha, hbl, _, hrg, hcs⟩ := (HA.out.below stays_Point HBr.out).at hp
      subst ha
      obtain ⟨rfl, hpx, hpy⟩ := hcs
      have c0 : wr.cell? ⟨bk, o + k * 2, none⟩ = some (.int .i64 p.x) := hrg 0 _ rfl
      have c1 : wr.cell? ⟨bk, o + k * 2 + 1, none⟩ = some (.int .i64 p.y) := hrg 1 _ rfl
      have HP := Lib.hid hp
      have HB3 := Lib.hid (HBr.out.alloc HBr.out.size (.cells #[.int .i64 p.x, .int .i64 p.y] 63))
      have HQ3 := Lib.hid (heap_alloc_new wr (.cells #[.int .i64 p.x, .int .i64 p.y] 63))
      clear hrg hp
      go_upto_region 6 with fail
      generalize wr.alloc (.cells #[.int .i64 p.x, .int .i64 p.y] 63) = w3 at *
      generalize wr.heap.size = bp at *
      clear c0 c1
      have d0 : w3.cell? ⟨bp, 0, none⟩ = some (.int .i64 p.x) := (cell_of_row _ _ _ _ _ _ HQ3.out).trans rfl
      go_wp2_with fail
      refine (value_any b _ p.x _ (HBB.out.below stays_Point HB3.out) HS.out).mono ?_
      rintro e w4 ⟨rfl, hb⟩
      have HB4 := Lib.hid (HB3.out.trans (hb.mono HB3.out.size))
      have e1 : w4.cell? ⟨bp, 1, none⟩ = some (.int .i64 p.y) := (cell_of_row _ _ _ _ _ _ (blk_below HQ3.out hb (blk_lt HQ3.out))).trans rfl
      obtain ⟨y, hy⟩ : ∃ y, y = (value b p.x).1 := ⟨_, rfl⟩
      rw [← hy]
      have HU : Hid (uA b p = decide (p.y ≤ y)) := Lib.hid (by rw [hy]; rfl)
      clear hb d0 HB3 HQ3 hy
      by_cases hc : y < p.y
      · have HE : Hid (underC a b = false) := Lib.hid (by rw [underC_eq, all_no HP.out (by rw [HU.out]; exact decide_eq_false (by omega)), Bool.and_false]; rfl)
        go_wp2_with fail
        go_ret
        exact retB_mk HE.out HB4.out
      · have HN := Lib.hid (upto_succ HP.out HOK.out (by rw [HU.out]; exact decide_eq_true (by omega)))
        go_wp2_with fail
        go_roundw
        case rel => exact ⟨k + 1, by omega, by go_num, HN.out, HB4.out⟩
        case measure => simp [intOf]; omega
    · have HAll : Hid (a.all (uA b) = true) := Lib.hid (all_of fun j p hj => HOK.out j p (by have := (List.getElem?_eq_some_iff.1 hj).1; omega) hj)
      go_wp2_with fail
      go_loopw [41] (fun iv wx => ∃ m : Nat, m ≤ b.length ∧ iv = .int .i64 m ∧ (∀ j q, j < m → b[j]? = some q → uB a q = true) ∧ Below w.heap.size w wx) (fun iv _ => b.length - (intOf iv).toNat)
      case atStart => exact ⟨0, Nat.zero_le _, rfl, (fun j q hj => by omega), HBr.out⟩
      case round =>
        obtain ⟨m, hm, rfl, hok, hb⟩ := hrel
        have HOM := Lib.hid hok
        have HBx := Lib.hid hb
        clear hok hb HBr
        by_cases hlm : m < b.length
        · obtain ⟨p, hp⟩ : ∃ p, b[m]? = some p := ⟨_, List.getElem?_eq_getElem hlm⟩
          obtain ⟨bk, o, cs, ha, hbl, _, hrg, hcs⟩ := (HBB.out.below stays_Point HBx.out).at hp
          subst ha
          obtain ⟨rfl, hpx, hpy⟩ := hcs
          have c0 : wr.cell? ⟨bk, o + m * 2, none⟩ = some (.int .i64 p.x) := hrg 0 _ rfl
          have c1 : wr.cell? ⟨bk, o + m * 2 + 1, none⟩ = some (.int .i64 p.y) := hrg 1 _ rfl
          have HP := Lib.hid hp
          have HB3 := Lib.hid (HBx.out.alloc HBx.out.size (.cells #[.int .i64 p.x, .int .i64 p.y] 63))
          have HQ3 := Lib.hid (heap_alloc_new wr (.cells #[.int .i64 p.x, .int .i64 p.y] 63))
          clear hrg hp
          go_upto_region 13 with fail
          generalize wr.alloc (.cells #[.int .i64 p.x, .int .i64 p.y] 63) = w3 at *
          generalize wr.heap.size = bp at *
          clear c0 c1
          have d0 : w3.cell? ⟨bp, 0, none⟩ = some (.int .i64 p.x) := (cell_of_row _ _ _ _ _ _ HQ3.out).trans rfl
          go_wp2_with fail
          refine (value_any a _ p.x _ (HA.out.below stays_Point HB3.out) HR.out).mono ?_
          rintro e w4 ⟨rfl, hb⟩
          have HB4 := Lib.hid (HB3.out.trans (hb.mono HB3.out.size))
          have e1 : w4.cell? ⟨bp, 1, none⟩ = some (.int .i64 p.y) := (cell_of_row _ _ _ _ _ _ (blk_below HQ3.out hb (blk_lt HQ3.out))).trans rfl
          obtain ⟨y, hy⟩ : ∃ y, y = (value a p.x).1 := ⟨_, rfl⟩
          obtain ⟨mo, hmo⟩ : ∃ z, z = (value a p.x).2 := ⟨_, rfl⟩
          rw [← hy, ← hmo]
          have HU : Hid (uB a p = (decide (y < p.y) || (decide (y = p.y) && !mo))) := Lib.hid (by rw [hy, hmo]; rfl)
          clear hb d0 HB3 HQ3 hy hmo
          by_cases hc : p.y < y
          · have HE : Hid (underC a b = false) := Lib.hid (by rw [underC_eq, all_no HP.out (by rw [HU.out, decide_eq_false (show ¬ y < p.y by omega), decide_eq_false (show ¬ y = p.y by omega)]; rfl), Bool.and_false])
            go_wp2_with fail
            go_ret
            exact retB_mk HE.out HB4.out
          · by_cases hq : y = p.y
            · cases mo
              · have HN := Lib.hid (upto_succ HP.out HOM.out (by rw [HU.out, decide_eq_true hq]; simp))
                have q1 : (y == p.y) = true := beq_iff_eq.2 hq
                clear hq
                go_wp2_with fail
                go_roundw
                case rel => exact ⟨m + 1, by omega, by go_num, HN.out, HB4.out⟩
                case measure => simp [intOf]; omega
              · have HE : Hid (underC a b = false) := Lib.hid (by rw [underC_eq, all_no HP.out (by rw [HU.out, decide_eq_false (show ¬ y < p.y by omega)]; simp), Bool.and_false])
                have q1 : (y == p.y) = true := beq_iff_eq.2 hq
                clear hq
                go_wp2_with fail
                go_ret
                exact retB_mk HE.out HB4.out
            · have HN := Lib.hid (upto_succ HP.out HOM.out (by rw [HU.out, decide_eq_true (show y < p.y by omega)]; rfl))
              have q1 : (y == p.y) = false := beq_eq_false_iff_ne.2 hq
              clear hq
              go_wp2_with fail
              go_roundw
              case rel => exact ⟨m + 1, by omega, by go_num, HN.out, HB4.out⟩
              case measure => simp [intOf]; omega
        · have HE : Hid (underC a b = true) := Lib.hid (by rw [underC_eq, HR.out, HS.out, HAll.out, all_of (fun j p hj => HOM.out j p (by have := (List.getElem?_eq_some_iff.1 hj).1; omega) hj)]; rfl)
          go_wp2_with fail
          go_ret
          exact retB_mk HE.out HBx.out
end Go.Proofs.Ytkoobkcmmfdlhaa
