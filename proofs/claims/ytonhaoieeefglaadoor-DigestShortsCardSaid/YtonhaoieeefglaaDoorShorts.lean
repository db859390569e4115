/- bournelaw03.DigestShorts returns true for all strings. -/
import Derived.Test.YtonhaoieeefglaaDoorShort
namespace Go.Proofs.YtonhaoieeefglaaDoor
open Go.RowKit
/-- what is left of Short when the bytes from k on have been read -/
def leftN (d : List UInt8) (k : Nat) : Nat := if k = 8 then topN d 8 / 16 else topN d k
theorem left8 (d : List UInt8) (b : UInt8) (h : d[7]? = some b) : leftN d 8 % 16 = b.toNat / 16 ∧ leftN d 8 / 16 = leftN d 7 := by
  have hb := b.toNat_lt
  have e : topN d 8 = topN d 7 * 256 + b.toNat := by
    show topN d 7 * 256 + (d[7]?.getD 0).toNat = _
    rw [h]; rfl
  unfold leftN
  rw [if_pos rfl, if_neg (by decide), e]
  omega
theorem leftS (d : List UInt8) (k : Nat) (hk : k < 7) (b : UInt8) (h : d[k]? = some b) : leftN d (k + 1) % 256 = b.toNat ∧ leftN d (k + 1) / 256 = leftN d k := by
  have hb := b.toNat_lt
  have e : topN d (k + 1) = topN d k * 256 + b.toNat := by
    show topN d k * 256 + (d[k]?.getD 0).toNat = _
    rw [h]; rfl
  unfold leftN
  rw [if_neg (by omega), if_neg (by omega), e]
  omega
theorem left_lt (d : List UInt8) (k : Nat) (hk : k ≤ 8) : leftN d k < 1152921504606846976 := by
  unfold leftN
  split
  · have := topN_lt d 8
    have e : (256 : Nat) ^ 8 = 18446744073709551616 := by decide
    omega
  · have := topN_small d k (by omega)
    omega
set_option maxRecDepth 100000 in
set_option maxHeartbeats 1000000 in
theorem shorts_core (s : ByteArray) (w : World) (hg : Glob w) (hs : s.size ≤ maxLen) :
    Calls Tryd.prog 8 #[.string s] w fun e w' => e = .returned (.bool true) ∧ Below w.heap.size w w' := by
  unfold maxLen at hs
  have Hg := Lib.hid hg
  clear hg
  by_cases g1 : 2000 < s.size
  · go_enter Tryd.func8, Tryd.ntmps8
    go_wp2_with fail
    refine (small_any _ Hg.out).mono ?_
    rintro e w1 ⟨rfl, hb⟩
    have HB := Lib.hid hb
    clear hb
    go_wp2_with fail
    go_ret
    exact ⟨rfl, HB.out⟩
  · go_enter Tryd.func8, Tryd.ntmps8
    go_wp2_with fail
    refine (small_any _ Hg.out).mono ?_
    rintro e w1 ⟨rfl, hb⟩
    have HB := Lib.hid hb
    clear hb
    go_wp2_with fail
    refine (sum_any _ _ (Hg.out.below HB.out Hg.out.size) (by omega)).mono ?_
    rintro e w2 ⟨rfl, hb⟩
    have HB2 := Lib.hid (HB.out.trans (hb.mono HB.out.size))
    clear hb HB
    have hX : (((⟨(sumB s.data.toList).toArray⟩ : ByteArray).size : Int) != 32) = false := by
      have : (⟨(sumB s.data.toList).toArray⟩ : ByteArray).size = 32 := sumB_len _
      rw [this]; rfl
    have hX1 : 32 ≤ (⟨(sumB s.data.toList).toArray⟩ : ByteArray).size := Nat.le_of_eq (sumB_len _).symm
    have HS : Hid (shortL s.data.toList = leftN (⟨(sumB s.data.toList).toArray⟩ : ByteArray).data.toList 8) := rfl
    generalize (⟨(sumB s.data.toList).toArray⟩ : ByteArray) = X at *
    go_wp2_with fail
    refine (short_any _ _ (Hg.out.below HB2.out Hg.out.size) (by omega)).mono ?_
    rintro e w3 ⟨rfl, hb⟩
    have HB3 := Lib.hid (HB2.out.trans (hb.mono HB2.out.size))
    clear hb HB2
    rw [HS.out]
    go_wp2_with fail
    go_loop [5, 6] (fun n i => ∃ k : Nat, k ≤ 8 ∧ i = .int .i64 ((k : Int) - 1) ∧ n = .int .i64 (leftN X.data.toList k : Nat)) (fun _ i => (intOf i + 1).toNat)
    case atStart => exact ⟨8, by omega, rfl, rfl⟩
    case round =>
      obtain ⟨k, hk, rfl, rfl⟩ := hrel
      cases k with
      | zero =>
        have h0 : leftN X.data.toList 0 = 0 := rfl
        rw [h0]
        go_wp2_with fail
        go_ret
        exact ⟨rfl, HB3.out⟩
      | succ k =>
        have hk2 : k < X.size := by omega
        have hX7 : X.data.toList[k]? = some X[k] := by
          rw [List.getElem?_eq_getElem (by simpa using hk2)]
          rfl
        have hl := left_lt X.data.toList (k + 1) hk
        have hi : (((k + 1 : Nat) : Int) - 1) = (k : Int) := by omega
        rw [hi]
        by_cases h7 : k = 7
        · subst h7
          have hb := X[7].toNat_lt
          have e1 : leftN X.data.toList (7 + 1) % 16 = X[7].toNat / 16 := (left8 X.data.toList X[7] hX7).1
          have e2 : leftN X.data.toList (7 + 1) / 16 = leftN X.data.toList 7 := (left8 X.data.toList X[7] hX7).2
          have H1 : ((((leftN X.data.toList (7 + 1) : Nat) : Int) % 16) != ((X[7].toNat : Int) / 16)) = false := by rw [bne_eq_false_iff_eq]; omega
          have H2 : Hid (((leftN X.data.toList (7 + 1) : Nat) : Int) / 16 = ((leftN X.data.toList 7 : Nat) : Int)) := by show _ = _; rw [← e2]; omega
          have HL := Lib.hid hl
          clear e1 e2 hX7 hl hi
          generalize leftN X.data.toList (7 + 1) = n at *
          go_wp2_with fail
          go_round
          case rel => exact ⟨7, by omega, by go_num, by rw [H2.out, IntWalk.wrap64_in _ (by have := left_lt X.data.toList 7 (by omega); omega)]⟩
          case measure => simp [intOf]
        · have hb := X[k].toNat_lt
          obtain ⟨e1, e2⟩ := leftS X.data.toList k (by omega) X[k] hX7
          have h71 : ((k : Int) == 7) = false := beq_eq_false_iff_ne.2 (by omega)
          have H1 : ((((leftN X.data.toList (k + 1) : Nat) : Int) % 256) != (X[k].toNat : Int)) = false := by rw [bne_eq_false_iff_eq]; omega
          have H2 : Hid (((leftN X.data.toList (k + 1) : Nat) : Int) / 256 = ((leftN X.data.toList k : Nat) : Int)) := by show _ = _; rw [← e2]; omega
          have HL := Lib.hid hl
          clear e1 e2 hX7 hl hi
          generalize leftN X.data.toList (k + 1) = n at *
          go_wp2_with fail
          go_round
          case rel => exact ⟨k, by omega, by go_num, by rw [H2.out, IntWalk.wrap64_in _ (by have := left_lt X.data.toList k (by omega); omega)]⟩
          case measure => simp [intOf]
end Go.Proofs.YtonhaoieeefglaaDoor
