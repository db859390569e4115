/- Package wire: leading. -/
import Derived.Test.YtepidpegoihllaaGreatDoorWJoin
namespace Go.Proofs.YtepidpegoihllaaGreatDoor
open Go.RowKit
def valR (l : List UInt8) : Nat := valL l.reverse
theorem valR_snoc (l : List UInt8) (x : UInt8) : valR (l ++ [x]) = 256 * valR l + x.toNat := by
  unfold valR
  rw [List.reverse_append]
  simp [valL]
  omega
theorem valR_lt (l : List UInt8) : valR l < 256 ^ l.length := by
  have := val_lt l.reverse
  rwa [List.length_reverse] at this
/-- the int whose encoding s begins with, and the number of its bytes -/
def leadP (s : List UInt8) : Int × Nat := match rdInt s with | none => (0, 0) | some (n, r) => (n, s.length - r.length)
theorem leadP_cases (c : UInt8) (r : List UInt8) (F : List UInt8 → List UInt8) (k : Nat) (neg : Bool) (hneg : neg = decide (c.toNat < 128)) (hF : ∀ l, F l = if neg then l.map (fun b => 255 - b) else l) (hk : k = if neg then 127 - c.toNat else c.toNat - 128) :
    leadP (c :: r) = if 8 < k ∨ r.length < k then (0, 0) else if (F (r.take k)).head? = some 0 then (0, 0) else if 9223372036854775807 < valR (F (r.take k)) then (0, 0) else (if neg then -(valR (F (r.take k)) : Int) - 1 else valR (F (r.take k)), 1 + k) := by
  subst hneg
  by_cases hc : c.toNat < 128
  · rw [decide_eq_true hc] at hF hk ⊢
    simp only [if_true] at hF hk ⊢
    unfold leadP rdInt
    simp only [if_pos hc, ← hk, hF]
    by_cases h1 : 8 < k ∨ r.length < k
    · rw [if_pos h1, if_pos h1]
    · rw [if_neg h1, if_neg h1]
      by_cases h2 : ((r.take k).map (fun b => 255 - b)).head? = some 0
      · rw [if_pos h2, if_pos h2]
      · rw [if_neg h2, if_neg h2]
        show (match (if 9223372036854775807 < valR ((r.take k).map (fun b => 255 - b)) then none else some (-(valR ((r.take k).map (fun b => 255 - b)) : Int) - 1, r.drop k)) with | none => (0, 0) | some (n, r') => (n, (c :: r).length - r'.length)) = _
        by_cases h3 : 9223372036854775807 < valR ((r.take k).map (fun b => 255 - b))
        · rw [if_pos h3, if_pos h3]
        · rw [if_neg h3, if_neg h3]
          simp only [List.length_cons, List.length_drop, Prod.mk.injEq, true_and]
          omega
  · rw [decide_eq_false hc] at hF hk ⊢
    simp only [Bool.false_eq_true, if_false] at hF hk ⊢
    unfold leadP rdInt
    simp only [if_neg hc, ← hk, hF]
    by_cases h1 : 8 < k ∨ r.length < k
    · rw [if_pos h1, if_pos h1]
    · rw [if_neg h1, if_neg h1]
      by_cases h2 : (r.take k).head? = some 0
      · rw [if_pos h2, if_pos h2]
      · rw [if_neg h2, if_neg h2]
        show (match (if 9223372036854775807 < valR (r.take k) then none else some ((valR (r.take k) : Int), r.drop k)) with | none => (0, 0) | some (n, r') => (n, (c :: r).length - r'.length)) = _
        by_cases h3 : 9223372036854775807 < valR (r.take k)
        · rw [if_pos h3, if_pos h3]
        · rw [if_neg h3, if_neg h3]
          simp only [List.length_cons, List.length_drop, Prod.mk.injEq, true_and]
          omega
theorem str_cons (s : ByteArray) (h : 0 < s.size) : s.data.toList = s[0] :: s.data.toList.drop 1 := by
  have hl : 0 < s.data.toList.length := by simpa using h
  have h1 : s.data.toList[0]? = some s[0] := by rw [List.getElem?_eq_getElem hl]; rfl
  cases hq : s.data.toList with
  | nil => rw [hq] at hl; simp at hl
  | cons a l =>
    rw [hq] at h1
    simp only [List.getElem?_cons_zero, Option.some.injEq] at h1
    rw [h1]
    rfl
theorem toList_ne (s : ByteArray) (h : 0 < s.size) : s.toList ≠ [] := by
  rw [ByteArray.toList_eq]
  intro e
  have h9 : s.data.toList.length = s.size := by simp
  rw [e] at h9
  simp at h9
  omega
theorem drop_get (s : ByteArray) (j : Nat) (h : j + 1 < s.size) : (s.data.toList.drop 1)[j]? = some s[j + 1] := by
  rw [List.getElem?_drop, Nat.add_comm 1 j, List.getElem?_eq_getElem (by simpa using h)]
  rfl
theorem u64_or (a x : Nat) (ha : a < 72057594037927936) (hx : x < 256) : bits BinOp.or IntKind.u64 ((a : Int) * 256) (x : Int) = ((256 * a + x : Nat) : Int) := by
  have h1 : 256 * a ||| x = 256 * a + x := by
    have := Nat.two_pow_add_eq_or_of_lt (i := 8) (b := x) (by simpa using hx) a
    simpa using this.symm
  have h0 : (a : Int) * 256 = ((256 * a : Nat) : Int) := by omega
  rw [h0]
  show IntKind.u64.wrap ((BitVec.ofInt 64 ((256 * a : Nat) : Int) ||| BitVec.ofInt 64 (x : Int)).toNat : Int) = _
  rw [BitVec.toNat_or, BitVec.ofInt_natCast, BitVec.ofInt_natCast, BitVec.toNat_ofNat, BitVec.toNat_ofNat, Nat.mod_eq_of_lt (by omega), Nat.mod_eq_of_lt (by omega), h1]
  exact IntWalk.u64_in _ (by omega)
theorem ret2_int {a b c d : Int} (h : a = b) (k : c = d) : Ending.returned (.tuple #[.int .i64 a, .int .i64 c]) = Ending.returned (.tuple #[.int .i64 b, .int .i64 d]) := by rw [h, k]
theorem head_flip (l : List UInt8) : (flipL l).head? = some 0 ↔ l.head? = some 255 := by
  cases l with
  | nil => simp [flipL]
  | cons x l =>
    simp only [flipL, List.map_cons, List.head?_cons, Option.some.injEq]
    constructor
    · intro h
      rw [← flip_flip x, h]
      rfl
    · rintro rfl
      rfl
set_option maxRecDepth 100000 in
set_option maxHeartbeats 1000000 in
theorem leading_nil (s : ByteArray) (w : World) (hs : s.size = 0) :
    Calls Tryz.prog 81 #[.string s] w fun e w' => e = .returned (.tuple #[.int .i64 0, .int .i64 0]) ∧ w = w' := by
  have hl : s.toList = [] := by rw [ByteArray.toList_eq]; exact List.eq_nil_of_length_eq_zero (by simpa using hs)
  have hl2 : (s.toList == []) = true := by rw [hl]; rfl
  clear hs hl
  go_enter Tryz.func81, Tryz.ntmps81
  go_wp2_with fail
  go_ret2
  exact ⟨rfl, rfl⟩

set_option maxRecDepth 100000 in
set_option maxHeartbeats 2000000 in
theorem leading_neg (s : ByteArray) (w : World) (h0 : 0 < s.size) (hs : s.size ≤ 1000000000) (hc : s[0].toNat < 128) :
    Calls Tryz.prog 81 #[.string s] w fun e w' => e = .returned (.tuple #[.int .i64 (leadP s.data.toList).1, .int .i64 (leadP s.data.toList).2]) ∧ w = w' := by
  obtain ⟨k, hk⟩ : ∃ k, k = 127 - s[0].toNat := ⟨_, rfl⟩
  have hcl := s[0].toNat_lt
  have HP0 := leadP_cases s[0] (s.data.toList.drop 1) flipL k true (by rw [decide_eq_true hc]) (fun l => by rfl) (by rw [hk]; rfl)
  rw [← str_cons s h0] at HP0
  have hrl : (s.data.toList.drop 1).length = s.size - 1 := by simp
  rw [hrl] at HP0
  have HP := Lib.hid HP0
  clear HP0
  have hne := toList_ne s h0
  have hne2 : (s.toList == []) = false := beq_eq_false_iff_ne.2 hne
  have HK := Lib.hid hk
  have hka : (k : Int) + (s[0].toNat : Int) ≤ 127 := by omega
  have hkb : 127 ≤ (k : Int) + (s[0].toNat : Int) := by omega
  clear hrl hne hk
  by_cases h8 : 8 < k
  · have HE : Hid (leadP s.data.toList = (0, 0)) := Lib.hid (by rw [HP.out, if_pos (Or.inl h8)])
    simp only [HE.out]
    go_enter Tryz.func81, Tryz.ntmps81
    go_wp2_with fail
    go_ret2
    exact ⟨rfl, rfl⟩
  · by_cases h9 : s.size - 1 < k
    · have HE : Hid (leadP s.data.toList = (0, 0)) := Lib.hid (by rw [HP.out, if_pos (Or.inr h9)])
      simp only [HE.out]
      have hlt : decide ((s.size : Int) < 1 + (127 - (s[0].toNat : Int))) = true := by simp; omega
      go_enter Tryz.func81, Tryz.ntmps81
      go_wp2_with fail
      go_ret2
      exact ⟨rfl, rfl⟩
    · have HP2 := HP.out
      rw [if_neg (by omega)] at HP2
      by_cases hz : (flipL ((s.data.toList.drop 1).take k)).head? = some 0
      · have HE : Hid (leadP s.data.toList = (0, 0)) := Lib.hid (by rw [HP2, if_pos hz])
        simp only [HE.out]
        have hk0 : 0 < k := by
          rcases Nat.eq_zero_or_pos k with rfl | h
          · simp [flipL] at hz
          · exact h
        have h1s : 1 < s.size := by omega
        have hd1 : s[1].toNat = 255 := by
          have hg := drop_get s 0 (by omega)
          rw [head_flip] at hz
          rw [List.head?_eq_getElem?] at hz
          rw [List.getElem?_take_of_lt hk0, hg] at hz
          rw [Option.some.inj hz]
          rfl
        have e1 : ((s[1].toNat : Int) == 255) = true := beq_iff_eq.2 (by omega)
        clear hz HP2 HP HE
        go_enter Tryz.func81, Tryz.ntmps81
        go_wp2_with fail
        go_ret2
        exact ⟨rfl, rfl⟩
      · rw [if_neg hz] at HP2
        have HP3 := Lib.hid HP2
        clear HP2 HP
        by_cases hk0 : 0 < k
        · have h1s : 1 < s.size := by omega
          have e1 : ((s[1].toNat : Int) == 255) = false := beq_eq_false_iff_ne.2 (fun e => hz (by
            have hg := drop_get s 0 (by omega)
            rw [head_flip]
            rw [List.head?_eq_getElem?, List.getElem?_take_of_lt hk0, hg]
            exact congrArg some (UInt8.toNat_inj.1 (by show s[1].toNat = 255; omega))))
          clear hz
          go_enter Tryz.func81, Tryz.ntmps81
          go_wp2_with fail
          go_loop [6, 7] (fun mv iv => ∃ i : Nat, 1 ≤ i ∧ i ≤ k + 1 ∧ iv = .int .i64 i ∧ mv = .int .u64 (valR (flipL ((s.data.toList.drop 1).take (i - 1))))) (fun _ iv => k + 1 - (Go.RowKit.intOf iv).toNat)
          case atStart => exact ⟨1, by omega, by omega, rfl, rfl⟩
          case round =>
            obtain ⟨i, hi1, hi2, rfl, rfl⟩ := hrel
            obtain ⟨m, hm⟩ : ∃ m, m = valR (flipL ((s.data.toList.drop 1).take (i - 1))) := ⟨_, rfl⟩
            rw [← hm]
            by_cases hle : i ≤ k
            · have hml : m < 72057594037927936 := by
                have h1 := valR_lt (flipL ((s.data.toList.drop 1).take (i - 1)))
                rw [← hm, flipL_length] at h1
                have h2 : ((s.data.toList.drop 1).take (i - 1)).length ≤ 7 := by
                  have := List.length_take_le (i - 1) (s.data.toList.drop 1)
                  omega
                exact Nat.lt_of_lt_of_le h1 (Nat.pow_le_pow_right (by decide) h2)
              have his : i < s.size := by omega
              obtain ⟨x, hx⟩ : ∃ x : UInt8, x = 255 - s[i] := ⟨_, rfl⟩
              have hxx : bits BinOp.xor IntKind.u8 (s[i].toNat : Int) 255 = (x.toNat : Int) := by
                have := xor_flip s[i].toNat s[i].toNat_lt
                rw [hx, this]
                simp
              have HM : Hid (256 * m + x.toNat = valR (flipL ((s.data.toList.drop 1).take (i + 1 - 1)))) := by
                refine Lib.hid ?_
                have hg := drop_get s (i - 1) (by omega)
                have e : i + 1 - 1 = (i - 1) + 1 := by omega
                rw [e, List.take_add_one, hg, flipL_append]
                have e2 : flipL (some s[i - 1 + 1]).toList = [x] := by
                  rw [hx]
                  have e3 : i - 1 + 1 = i := by omega
                  simp only [e3]
                  rfl
                rw [e2, valR_snoc, ← hm]
              have hxl := x.toNat_lt
              have hor := u64_or m x.toNat hml hxl
              clear hx hm hne2
              go_wp2_with fail
              go_round
              case rel => exact ⟨i + 1, by omega, by omega, by go_num, by rw [← HM.out]; go_num⟩
              case measure => simp [Go.RowKit.intOf]; omega
            · obtain rfl : i = k + 1 := by omega
              rw [Nat.add_sub_cancel] at hm
              have HP4 := HP3.out
              rw [← hm] at HP4
              have hml : m < 18446744073709551616 := by
                have h1 := valR_lt (flipL ((s.data.toList.drop 1).take k))
                rw [← hm, flipL_length] at h1
                have h2 : ((s.data.toList.drop 1).take k).length ≤ 8 := by
                  have := List.length_take_le k (s.data.toList.drop 1)
                  omega
                exact Nat.lt_of_lt_of_le h1 (Nat.pow_le_pow_right (by decide) h2)
              by_cases hbig : 9223372036854775807 < m
              · have HE : Hid (leadP s.data.toList = (0, 0)) := Lib.hid (by rw [HP4, if_pos hbig])
                clear HP4 HP3 hm hne2 hle
                go_wp2_with fail
                go_ret2
                exact ⟨by rw [HE.out]; exact ret2_int rfl rfl, rfl⟩
              · have HE : Hid (leadP s.data.toList = (-(m : Int) - 1, 1 + k)) := Lib.hid (by rw [HP4, if_neg hbig]; rfl)
                clear HP4 HP3 hm hne2 hle
                go_wp2_with fail
                go_ret2
                exact ⟨by rw [HE.out]; exact ret2_int rfl (by simp; omega), rfl⟩
        · have hkz : decide (0 < 127 - (s[0].toNat : Int)) = false := by simp; omega
          go_enter Tryz.func81, Tryz.ntmps81
          go_wp2_with fail
          go_loop [6, 7] (fun mv iv => ∃ i : Nat, 1 ≤ i ∧ i ≤ k + 1 ∧ iv = .int .i64 i ∧ mv = .int .u64 (valR (flipL ((s.data.toList.drop 1).take (i - 1))))) (fun _ iv => k + 1 - (Go.RowKit.intOf iv).toNat)
          case atStart => exact ⟨1, by omega, by omega, rfl, rfl⟩
          case round =>
            obtain ⟨i, hi1, hi2, rfl, rfl⟩ := hrel
            obtain ⟨m, hm⟩ : ∃ m, m = valR (flipL ((s.data.toList.drop 1).take (i - 1))) := ⟨_, rfl⟩
            rw [← hm]
            by_cases hle : i ≤ k
            · exact absurd hle (by omega)
            · obtain rfl : i = k + 1 := by omega
              rw [Nat.add_sub_cancel] at hm
              have HP4 := HP3.out
              rw [← hm] at HP4
              have hml : m < 18446744073709551616 := by
                have h1 := valR_lt (flipL ((s.data.toList.drop 1).take k))
                rw [← hm, flipL_length] at h1
                have h2 : ((s.data.toList.drop 1).take k).length ≤ 8 := by
                  have := List.length_take_le k (s.data.toList.drop 1)
                  omega
                exact Nat.lt_of_lt_of_le h1 (Nat.pow_le_pow_right (by decide) h2)
              by_cases hbig : 9223372036854775807 < m
              · have HE : Hid (leadP s.data.toList = (0, 0)) := Lib.hid (by rw [HP4, if_pos hbig])
                clear HP4 HP3 hm hne2 hle
                go_wp2_with fail
                go_ret2
                exact ⟨by rw [HE.out]; exact ret2_int rfl rfl, rfl⟩
              · have HE : Hid (leadP s.data.toList = (-(m : Int) - 1, 1 + k)) := Lib.hid (by rw [HP4, if_neg hbig]; rfl)
                clear HP4 HP3 hm hne2 hle
                go_wp2_with fail
                go_ret2
                exact ⟨by rw [HE.out]; exact ret2_int rfl (by simp; omega), rfl⟩

set_option maxRecDepth 100000 in
set_option maxHeartbeats 2000000 in
theorem leading_pos (s : ByteArray) (w : World) (h0 : 0 < s.size) (hs : s.size ≤ 1000000000) (hc : 128 ≤ s[0].toNat) :
    Calls Tryz.prog 81 #[.string s] w fun e w' => e = .returned (.tuple #[.int .i64 (leadP s.data.toList).1, .int .i64 (leadP s.data.toList).2]) ∧ w = w' := by
  obtain ⟨k, hk⟩ : ∃ k, k = s[0].toNat - 128 := ⟨_, rfl⟩
  have hcl := s[0].toNat_lt
  have HP0 := leadP_cases s[0] (s.data.toList.drop 1) sameL k false (by rw [decide_eq_false (by omega)]) (fun l => by rfl) (by rw [hk]; rfl)
  rw [← str_cons s h0] at HP0
  have hrl : (s.data.toList.drop 1).length = s.size - 1 := by simp
  rw [hrl] at HP0
  have HP := Lib.hid HP0
  clear HP0
  have hne := toList_ne s h0
  have hne2 : (s.toList == []) = false := beq_eq_false_iff_ne.2 hne
  have HK := Lib.hid hk
  have hka : (k : Int) + 128 ≤ (s[0].toNat : Int) := by omega
  have hkb : (s[0].toNat : Int) ≤ (k : Int) + 128 := by omega
  clear hrl hne hk
  by_cases h8 : 8 < k
  · have HE : Hid (leadP s.data.toList = (0, 0)) := Lib.hid (by rw [HP.out, if_pos (Or.inl h8)])
    simp only [HE.out]
    go_enter Tryz.func81, Tryz.ntmps81
    go_wp2_with fail
    go_ret2
    exact ⟨rfl, rfl⟩
  · by_cases h9 : s.size - 1 < k
    · have HE : Hid (leadP s.data.toList = (0, 0)) := Lib.hid (by rw [HP.out, if_pos (Or.inr h9)])
      simp only [HE.out]
      have hlt : decide ((s.size : Int) < 1 + ((s[0].toNat : Int) - 128)) = true := by simp; omega
      go_enter Tryz.func81, Tryz.ntmps81
      go_wp2_with fail
      go_ret2
      exact ⟨rfl, rfl⟩
    · have HP2 := HP.out
      rw [if_neg (by omega)] at HP2
      by_cases hz : (sameL ((s.data.toList.drop 1).take k)).head? = some 0
      · have HE : Hid (leadP s.data.toList = (0, 0)) := Lib.hid (by rw [HP2, if_pos hz])
        simp only [HE.out]
        have hk0 : 0 < k := by
          rcases Nat.eq_zero_or_pos k with rfl | h
          · simp [sameL] at hz
          · exact h
        have h1s : 1 < s.size := by omega
        have hd1 : s[1].toNat = 0 := by
          have hg := drop_get s 0 (by omega)
          unfold sameL at hz
          rw [List.head?_eq_getElem?] at hz
          rw [List.getElem?_take_of_lt hk0, hg] at hz
          rw [Option.some.inj hz]
          rfl
        have e1 : ((s[1].toNat : Int) == 0) = true := beq_iff_eq.2 (by omega)
        clear hz HP2 HP HE
        go_enter Tryz.func81, Tryz.ntmps81
        go_wp2_with fail
        go_ret2
        exact ⟨rfl, rfl⟩
      · rw [if_neg hz] at HP2
        have HP3 := Lib.hid HP2
        clear HP2 HP
        by_cases hk0 : 0 < k
        · have h1s : 1 < s.size := by omega
          have e1 : ((s[1].toNat : Int) == 0) = false := beq_eq_false_iff_ne.2 (fun e => hz (by
            have hg := drop_get s 0 (by omega)
            unfold sameL
            rw [List.head?_eq_getElem?, List.getElem?_take_of_lt hk0, hg]
            exact congrArg some (UInt8.toNat_inj.1 (by show s[1].toNat = 0; omega))))
          clear hz
          go_enter Tryz.func81, Tryz.ntmps81
          go_wp2_with fail
          go_loop [6, 7] (fun mv iv => ∃ i : Nat, 1 ≤ i ∧ i ≤ k + 1 ∧ iv = .int .i64 i ∧ mv = .int .u64 (valR (sameL ((s.data.toList.drop 1).take (i - 1))))) (fun _ iv => k + 1 - (Go.RowKit.intOf iv).toNat)
          case atStart => exact ⟨1, by omega, by omega, rfl, rfl⟩
          case round =>
            obtain ⟨i, hi1, hi2, rfl, rfl⟩ := hrel
            obtain ⟨m, hm⟩ : ∃ m, m = valR (sameL ((s.data.toList.drop 1).take (i - 1))) := ⟨_, rfl⟩
            rw [← hm]
            by_cases hle : i ≤ k
            · have hml : m < 72057594037927936 := by
                have h1 := valR_lt (sameL ((s.data.toList.drop 1).take (i - 1)))
                rw [← hm, sameL_length] at h1
                have h2 : ((s.data.toList.drop 1).take (i - 1)).length ≤ 7 := by
                  have := List.length_take_le (i - 1) (s.data.toList.drop 1)
                  omega
                exact Nat.lt_of_lt_of_le h1 (Nat.pow_le_pow_right (by decide) h2)
              have his : i < s.size := by omega
              obtain ⟨x, hx⟩ : ∃ x : UInt8, x = s[i] := ⟨_, rfl⟩
              have hxx : bits BinOp.xor IntKind.u8 (s[i].toNat : Int) 0 = (x.toNat : Int) := by
                have := xor_same s[i].toNat s[i].toNat_lt
                rw [hx, this]
                simp
              have HM : Hid (256 * m + x.toNat = valR (sameL ((s.data.toList.drop 1).take (i + 1 - 1)))) := by
                refine Lib.hid ?_
                have hg := drop_get s (i - 1) (by omega)
                have e : i + 1 - 1 = (i - 1) + 1 := by omega
                rw [e, List.take_add_one, hg, sameL_append]
                have e2 : sameL (some s[i - 1 + 1]).toList = [x] := by
                  rw [hx]
                  have e3 : i - 1 + 1 = i := by omega
                  simp only [e3]
                  rfl
                rw [e2, valR_snoc, ← hm]
              have hxl := x.toNat_lt
              have hor := u64_or m x.toNat hml hxl
              clear hx hm hne2
              go_wp2_with fail
              go_round
              case rel => exact ⟨i + 1, by omega, by omega, by go_num, by rw [← HM.out]; go_num⟩
              case measure => simp [Go.RowKit.intOf]; omega
            · obtain rfl : i = k + 1 := by omega
              rw [Nat.add_sub_cancel] at hm
              have HP4 := HP3.out
              rw [← hm] at HP4
              have hml : m < 18446744073709551616 := by
                have h1 := valR_lt (sameL ((s.data.toList.drop 1).take k))
                rw [← hm, sameL_length] at h1
                have h2 : ((s.data.toList.drop 1).take k).length ≤ 8 := by
                  have := List.length_take_le k (s.data.toList.drop 1)
                  omega
                exact Nat.lt_of_lt_of_le h1 (Nat.pow_le_pow_right (by decide) h2)
              by_cases hbig : 9223372036854775807 < m
              · have HE : Hid (leadP s.data.toList = (0, 0)) := Lib.hid (by rw [HP4, if_pos hbig])
                clear HP4 HP3 hm hne2 hle
                go_wp2_with fail
                go_ret2
                exact ⟨by rw [HE.out]; exact ret2_int rfl rfl, rfl⟩
              · have HE : Hid (leadP s.data.toList = ((m : Int), 1 + k)) := Lib.hid (by rw [HP4, if_neg hbig]; rfl)
                clear HP4 HP3 hm hne2 hle
                go_wp2_with fail
                go_ret2
                exact ⟨by rw [HE.out]; exact ret2_int rfl (by simp; omega), rfl⟩
        · have hkz : decide (0 < (s[0].toNat : Int) - 128) = false := by simp; omega
          go_enter Tryz.func81, Tryz.ntmps81
          go_wp2_with fail
          go_loop [6, 7] (fun mv iv => ∃ i : Nat, 1 ≤ i ∧ i ≤ k + 1 ∧ iv = .int .i64 i ∧ mv = .int .u64 (valR (sameL ((s.data.toList.drop 1).take (i - 1))))) (fun _ iv => k + 1 - (Go.RowKit.intOf iv).toNat)
          case atStart => exact ⟨1, by omega, by omega, rfl, rfl⟩
          case round =>
            obtain ⟨i, hi1, hi2, rfl, rfl⟩ := hrel
            obtain ⟨m, hm⟩ : ∃ m, m = valR (sameL ((s.data.toList.drop 1).take (i - 1))) := ⟨_, rfl⟩
            rw [← hm]
            by_cases hle : i ≤ k
            · exact absurd hle (by omega)
            · obtain rfl : i = k + 1 := by omega
              rw [Nat.add_sub_cancel] at hm
              have HP4 := HP3.out
              rw [← hm] at HP4
              have hml : m < 18446744073709551616 := by
                have h1 := valR_lt (sameL ((s.data.toList.drop 1).take k))
                rw [← hm, sameL_length] at h1
                have h2 : ((s.data.toList.drop 1).take k).length ≤ 8 := by
                  have := List.length_take_le k (s.data.toList.drop 1)
                  omega
                exact Nat.lt_of_lt_of_le h1 (Nat.pow_le_pow_right (by decide) h2)
              by_cases hbig : 9223372036854775807 < m
              · have HE : Hid (leadP s.data.toList = (0, 0)) := Lib.hid (by rw [HP4, if_pos hbig])
                clear HP4 HP3 hm hne2 hle
                go_wp2_with fail
                go_ret2
                exact ⟨by rw [HE.out]; exact ret2_int rfl rfl, rfl⟩
              · have HE : Hid (leadP s.data.toList = ((m : Int), 1 + k)) := Lib.hid (by rw [HP4, if_neg hbig]; rfl)
                clear HP4 HP3 hm hne2 hle
                go_wp2_with fail
                go_ret2
                exact ⟨by rw [HE.out]; exact ret2_int rfl (by simp; omega), rfl⟩
theorem leading_any (s : ByteArray) (w : World) (hs : s.size ≤ 1000000000) :
    Calls Tryz.prog 81 #[.string s] w fun e w' => e = .returned (.tuple #[.int .i64 (leadP s.data.toList).1, .int .i64 (leadP s.data.toList).2]) ∧ w = w' := by
  by_cases h0 : s.size = 0
  · have : s.data.toList = [] := List.eq_nil_of_length_eq_zero (by simpa using h0)
    rw [this]
    exact leading_nil s w h0
  · by_cases hc : s[0].toNat < 128
    · exact leading_neg s w (by omega) hs hc
    · exact leading_pos s w (by omega) hs (by omega)
end Go.Proofs.YtepidpegoihllaaGreatDoor

