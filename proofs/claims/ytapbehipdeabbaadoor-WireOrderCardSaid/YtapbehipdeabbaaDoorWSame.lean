/- bourneref02.SameNums, SameTexts. -/
import Derived.Test.YtapbehipdeabbaaDoorWJoin
import Derived.BigQuiet
namespace Go.Proofs.YtapbehipdeabbaaDoor
open Go.RowKit
theorem take_step {α : Type} {a b : List α} {k : Nat} {x : α} (h : a.take k = b.take k) (ha : a[k]? = some x) (hb : b[k]? = some x) : a.take (k + 1) = b.take (k + 1) := by
  rw [List.take_add_one, List.take_add_one, h, ha, hb]
theorem str_eq {s t : ByteArray} (h : s.toList = t.toList) : s = t := by
  rw [ByteArray.toList_eq, ByteArray.toList_eq] at h
  cases s; cases t; simp at h; rw [h]

set_option maxRecDepth 100000 in
set_option maxHeartbeats 2000000 in
theorem sameNums_any (va vb : Value) (la lb : List Int) (w : World) (ha : CArg (Value.int .i64) va la w) (hb : CArg (Value.int .i64) vb lb w) (hla : la.length ≤ 2000010) (hlb : lb.length ≤ 2000010) :
    Calls Tryd.prog 32 #[va, vb] w fun e w' => e = .returned (.bool (decide (la = lb))) ∧ ∃ k, w' = w.drewN k := by
  obtain ⟨a, c, rfl, ha⟩ := ha
  obtain ⟨b, d, rfl, hb⟩ := hb
  by_cases hlen : la.length = lb.length
  · have hl2 : ((la.length : Int) != (lb.length : Int)) = false := by rw [hlen]; simp
    have HL := Lib.hid hlen
    have HA := Lib.hid ha
    have HB := Lib.hid hb
    clear ha hb hlen
    go_enter Tryd.func32, Tryd.ntmps32
    go_wp2_with fail
    go_loopw [5] (fun i wr => ∃ k m : Nat, k ≤ la.length ∧ i = .int .i64 k ∧ la.take k = lb.take k ∧ wr = w.drewN m) (fun i _ => la.length - (intOf i).toNat)
    case atStart => exact ⟨0, 0, by omega, rfl, by simp, rfl⟩
    case round =>
      obtain ⟨k, m, hk, rfl, ht, rfl⟩ := hrel
      have HT := Lib.hid ht
      clear ht
      by_cases hlt : k < la.length
      · have hlt2 : k < lb.length := by rw [← HL.out]; exact hlt
        have H1 : Hid (la[k]? = some la[k]) := Lib.hid (List.getElem?_eq_getElem hlt)
        have H2 : Hid (lb[k]? = some lb[k]) := Lib.hid (List.getElem?_eq_getElem hlt2)
        obtain ⟨p, rfl, _, c1⟩ := HA.out k _ H1.out
        obtain ⟨q, rfl, _, c2⟩ := HB.out k _ H2.out
        clear HA HB
        generalize la[k] = x at *
        generalize lb[k] = y at *
        by_cases hxy : x = y
        · subst hxy
          have HS := Lib.hid (take_step HT.out H1.out H2.out)
          go_wp2_with fail
          go_quiet (fail)
          go_wp2_with fail
          go_roundw
          case rel => exact ⟨k + 1, _, by omega, by go_num, HS.out, rfl⟩
          case measure => simp [intOf]; omega
        · have hne : (x != y) = true := bne_iff_ne.2 hxy
          have hne2 : (x == y) = false := beq_eq_false_iff_ne.2 hxy
          have HE : Hid (decide (la = lb) = false) := Lib.hid (by
            simp only [decide_eq_false_iff_not]
            intro e
            subst e
            exact hxy (Option.some.inj (H1.out.symm.trans H2.out)))
          clear hxy
          go_wp2_with fail
          go_quiet (fail)
          go_wp2_with fail
          rw [HE.out]
          go_ret
          exact ⟨rfl, m + nq, by rw [World.drewN_drewN]⟩
      · obtain rfl : k = la.length := by omega
        have HE : Hid (decide (la = lb) = true) := Lib.hid (by
          have := HT.out
          rw [List.take_of_length_le (Nat.le_refl _), List.take_of_length_le (by rw [HL.out]; exact Nat.le_refl _)] at this
          simp [this])
        clear hlt hk
        go_wp2_with fail
        rw [HE.out]
        go_ret
        exact ⟨rfl, _, rfl⟩
  · have hl2 : ((la.length : Int) != (lb.length : Int)) = true := by rw [bne_iff_ne]; omega
    have HE : Hid (decide (la = lb) = false) := Lib.hid (by
      simp only [decide_eq_false_iff_not]
      intro e
      exact hlen (by rw [e]))
    clear ha hb hlen
    go_enter Tryd.func32, Tryd.ntmps32
    go_wp2_with fail
    rw [HE.out]
    go_ret
    exact ⟨rfl, 0, rfl⟩

set_option maxRecDepth 100000 in
set_option maxHeartbeats 2000000 in
theorem sameTexts_any (va vb : Value) (la lb : List ByteArray) (w : World) (ha : CArg (Value.string) va la w) (hb : CArg (Value.string) vb lb w) (hla : la.length ≤ 2000010) (hlb : lb.length ≤ 2000010) :
    Calls Tryd.prog 35 #[va, vb] w fun e w' => e = .returned (.bool (decide (la = lb))) ∧ ∃ k, w' = w.drewN k := by
  obtain ⟨a, c, rfl, ha⟩ := ha
  obtain ⟨b, d, rfl, hb⟩ := hb
  by_cases hlen : la.length = lb.length
  · have hl2 : ((la.length : Int) != (lb.length : Int)) = false := by rw [hlen]; simp
    have HL := Lib.hid hlen
    have HA := Lib.hid ha
    have HB := Lib.hid hb
    clear ha hb hlen
    go_enter Tryd.func35, Tryd.ntmps35
    go_wp2_with fail
    go_loopw [5] (fun i wr => ∃ k m : Nat, k ≤ la.length ∧ i = .int .i64 k ∧ la.take k = lb.take k ∧ wr = w.drewN m) (fun i _ => la.length - (intOf i).toNat)
    case atStart => exact ⟨0, 0, by omega, rfl, by simp, rfl⟩
    case round =>
      obtain ⟨k, m, hk, rfl, ht, rfl⟩ := hrel
      have HT := Lib.hid ht
      clear ht
      by_cases hlt : k < la.length
      · have hlt2 : k < lb.length := by rw [← HL.out]; exact hlt
        have H1 : Hid (la[k]? = some la[k]) := Lib.hid (List.getElem?_eq_getElem hlt)
        have H2 : Hid (lb[k]? = some lb[k]) := Lib.hid (List.getElem?_eq_getElem hlt2)
        obtain ⟨p, rfl, _, c1⟩ := HA.out k _ H1.out
        obtain ⟨q, rfl, _, c2⟩ := HB.out k _ H2.out
        clear HA HB
        generalize la[k] = x at *
        generalize lb[k] = y at *
        by_cases hxy : x = y
        · subst hxy
          have HS := Lib.hid (take_step HT.out H1.out H2.out)
          go_wp2_with fail
          go_quiet (fail)
          go_wp2_with fail
          go_roundw
          case rel => exact ⟨k + 1, _, by omega, by go_num, HS.out, rfl⟩
          case measure => simp [intOf]; omega
        · have hne : (x.toList != y.toList) = true := bne_iff_ne.2 (fun e => hxy (str_eq e))
          have hne2 : (x.toList == y.toList) = false := beq_eq_false_iff_ne.2 (fun e => hxy (str_eq e))
          have HE : Hid (decide (la = lb) = false) := Lib.hid (by
            simp only [decide_eq_false_iff_not]
            intro e
            subst e
            exact hxy (Option.some.inj (H1.out.symm.trans H2.out)))
          clear hxy
          go_wp2_with fail
          go_quiet (fail)
          go_wp2_with fail
          rw [HE.out]
          go_ret
          exact ⟨rfl, m + nq, by rw [World.drewN_drewN]⟩
      · obtain rfl : k = la.length := by omega
        have HE : Hid (decide (la = lb) = true) := Lib.hid (by
          have := HT.out
          rw [List.take_of_length_le (Nat.le_refl _), List.take_of_length_le (by rw [HL.out]; exact Nat.le_refl _)] at this
          simp [this])
        clear hlt hk
        go_wp2_with fail
        rw [HE.out]
        go_ret
        exact ⟨rfl, _, rfl⟩
  · have hl2 : ((la.length : Int) != (lb.length : Int)) = true := by rw [bne_iff_ne]; omega
    have HE : Hid (decide (la = lb) = false) := Lib.hid (by
      simp only [decide_eq_false_iff_not]
      intro e
      exact hlen (by rw [e]))
    clear ha hb hlen
    go_enter Tryd.func35, Tryd.ntmps35
    go_wp2_with fail
    rw [HE.out]
    go_ret
    exact ⟨rfl, 0, rfl⟩
end Go.Proofs.YtapbehipdeabbaaDoor
