/- Package group: residue, product, Mul, MulQ, AddQ, Exp, In, Inv. -/
import Derived.Test.YtgjklfddoechpaaDoorSDiv
import Derived.Test.YtgjklfddoechpaaDoorNGroup
import Derived.Outline
namespace Go.Proofs.YtgjklfddoechpaaDoor
open Go.RowKit
/-- the residue of an int -/
def resN (n : Int) (m : Nat) : Nat := (n % (m : Int)).toNat
theorem resN_lt {m : Nat} (n : Int) (h : 0 < m) : resN n m < m := by
  unfold resN
  have h1 := Int.emod_nonneg n (show (m : Int) ≠ 0 by omega)
  have h2 := Int.emod_lt_of_pos n (show (0 : Int) < m by omega)
  omega
theorem resN_cast {m : Nat} (n : Int) (h : 0 < m) : ((resN n m : Nat) : Int) = n % (m : Int) := by
  unfold resN
  have h1 := Int.emod_nonneg n (show (m : Int) ≠ 0 by omega)
  omega
set_option maxRecDepth 100000 in
set_option maxHeartbeats 1000000 in
theorem rem64_any (hi lo y : Nat) (w : World) (hy0 : 0 < y) (hhi : hi < 18446744073709551616) (hy2 : y < 18446744073709551616) (hlo : lo < 18446744073709551616) :
    Calls Tryd.prog 70 #[.int .u64 hi, .int .u64 lo, .int .u64 y] w fun e w' => e = .returned (.int .u64 ((hi * 18446744073709551616 + lo) % y : Nat)) ∧ ∃ n, w' = w.drewN n := by
  obtain ⟨h, hh⟩ : ∃ h, h = hi % y := ⟨_, rfl⟩
  have F1 : (hi : Int) % (y : Int) = (h : Int) := by rw [hh]; exact (Int.natCast_emod hi y).symm
  have HM : Hid ((h * 18446744073709551616 + lo) % y = (hi * 18446744073709551616 + lo) % y) := Lib.hid (by rw [hh, Nat.add_mod, Nat.mul_mod, Nat.mod_mod, ← Nat.mul_mod, ← Nat.add_mod])
  have HL : Hid (h < y) := Lib.hid (by rw [hh]; exact Nat.mod_lt hi hy0)
  have HY2 := Lib.hid hy2
  have HLO := Lib.hid hlo
  have t1 : ((y : Int) = 0) = False := by simp; omega
  clear hh hy2 hlo
  go_enter Tryd.func70, Tryd.ntmps70
  go_wp2_with fail
  refine (div64_any h lo y _ HL.out HY2.out HLO.out).mono ?_
  rintro e w1 ⟨rfl, n, rfl⟩
  rw [HM.out]
  go_wp2_with fail
  go_ret
  exact ⟨rfl, n, rfl⟩
set_option maxRecDepth 100000 in
set_option maxHeartbeats 1000000 in
theorem residue_any (n : Int) (m : Nat) (w : World) (hn : -9223372036854775808 ≤ n ∧ n ≤ 9223372036854775807) (hm0 : 0 < m) (hm : m < 4611686018427387904) :
    Calls Tryd.prog 46 #[.int .i64 n, .int .i64 m] w fun e w' => e = .returned (.int .i64 (resN n m : Nat)) ∧ w' = w := by
  have t1 : ¬ (m : Int) = 0 := by omega
  have hr := resN_cast n hm0
  have hb := Int.emod_lt_of_pos n (show (0 : Int) < m by omega)
  have h0 := Int.emod_nonneg n (show (m : Int) ≠ 0 by omega)
  have HR := Lib.hid hr
  clear hr
  by_cases hneg : 0 ≤ n
  · have F1 : n % (m : Int) = (resN n m : Int) := HR.out.symm
    have F2 : ¬ ((resN n m : Int) < 0) := by omega
    go_enter Tryd.func46, Tryd.ntmps46
    go_wp2_with fail
    go_ret
    exact ⟨by first | rfl | rw [HR.out], rfl⟩
  · obtain ⟨k, hk⟩ : ∃ k : Nat, (k : Int) = (-n) % (m : Int) := ⟨((-n) % (m : Int)).toNat, by have := Int.emod_nonneg (-n) (show (m : Int) ≠ 0 by omega); omega⟩
    have hkm : (k : Int) < m := by rw [hk]; exact Int.emod_lt_of_pos _ (by omega)
    have F1 : n.tmod (m : Int) = -(k : Int) := by
      rw [hk, ← Int.tmod_eq_emod_of_nonneg (show 0 ≤ -n by omega), Int.neg_tmod, Int.neg_neg]
    have e1 : n = -(k : Int) + (m : Int) * (-((-n) / (m : Int))) := by
      have := Int.emod_add_mul_ediv (-n) (m : Int)
      rw [← hk] at this
      rw [Int.mul_neg]
      omega
    have e2 : n % (m : Int) = (-(k : Int)) % (m : Int) := by
      conv => lhs; rw [e1]
      exact Int.add_mul_emod_self_left _ _ _
    by_cases h0k : k = 0
    · have HE : Hid ((resN n m : Int) = 0) := Lib.hid (by rw [HR.out, e2, h0k]; simp)
      have F3 : ¬ (-(k : Int) < 0) := by omega
      clear hk e1 e2
      go_enter Tryd.func46, Tryd.ntmps46
      go_wp2_with fail
      go_ret
      exact ⟨by rw [HE.out]; first | rfl | (congr 2; omega), rfl⟩
    · have HE : Hid ((resN n m : Int) = -(k : Int) + m) := Lib.hid (by
        rw [HR.out, e2, ← Int.add_emod_right, Int.emod_eq_of_lt (by omega) (by omega)])
      have F3 : -(k : Int) < 0 := by omega
      clear hk e1 e2
      go_enter Tryd.func46, Tryd.ntmps46
      go_wp2_with fail
      go_ret
      exact ⟨by rw [HE.out]; first | rfl | (congr 2; omega), rfl⟩
/-- the product of two residues -/
def mulN (a b : Int) (m : Nat) : Nat := resN a m * resN b m % m
theorem mulN_lt {m : Nat} (a b : Int) (h : 0 < m) : mulN a b m < m := Nat.mod_lt _ h
theorem resN_of {n m : Nat} (h : n < m) : resN (n : Int) m = n := by
  unfold resN
  rw [Int.emod_eq_of_lt (by omega) (by omega), Int.toNat_natCast]
theorem resN_nat (n m : Nat) : resN (n : Int) m = n % m := by
  unfold resN
  rw [← Int.natCast_emod, Int.toNat_natCast]
set_option maxRecDepth 100000 in
set_option maxHeartbeats 2000000 in
theorem product_any (a b : Int) (m : Nat) (w : World) (ha : -9223372036854775808 ≤ a ∧ a ≤ 9223372036854775807) (hb : -9223372036854775808 ≤ b ∧ b ≤ 9223372036854775807) (hm0 : 0 < m) (hm : m < 4611686018427387904) :
    Calls Tryd.prog 61 #[.int .i64 a, .int .i64 b, .int .i64 m] w fun e w' => e = .returned (.int .i64 (mulN a b m : Nat)) ∧ ∃ n, w' = w.drewN n := by
  obtain ⟨x, hx⟩ : ∃ x, x = resN a m := ⟨_, rfl⟩
  obtain ⟨y, hy⟩ : ∃ y, y = resN b m := ⟨_, rfl⟩
  have hxm : x < m := by rw [hx]; exact resN_lt a hm0
  have hym : y < m := by rw [hy]; exact resN_lt b hm0
  obtain ⟨h, hh⟩ : ∃ h, h = x * y / 18446744073709551616 := ⟨_, rfl⟩
  obtain ⟨l, hl⟩ : ∃ l, l = x * y % 18446744073709551616 := ⟨_, rfl⟩
  have hhb : h < 18446744073709551616 := by
    rw [hh, Nat.div_lt_iff_lt_mul (by decide)]
    have := Nat.mul_lt_mul_of_lt_of_lt hxm hym
    have h2 := Nat.mul_le_mul (Nat.le_of_lt hm) (Nat.le_of_lt hm)
    exact Nat.lt_of_lt_of_le this (Nat.le_trans h2 (by decide))
  have hlb : l < 18446744073709551616 := by rw [hl]; exact Nat.mod_lt _ (by decide)
  have HE : Hid ((h * 18446744073709551616 + l) % m = mulN a b m) := Lib.hid (by
    unfold mulN
    rw [← hx, ← hy, hh, hl, Nat.div_add_mod'])
  have hrm := mulN_lt a b hm0
  have HA := Lib.hid ha
  have HB := Lib.hid hb
  have HX := Lib.hid hx
  have HY := Lib.hid hy
  have HH := Lib.hid hh
  have HL := Lib.hid hl
  clear ha hb hx hy hh hl
  go_enter Tryd.func61, Tryd.ntmps61
  go_wp2_with fail
  refine (residue_any a m _ HA.out hm0 hm).mono ?_
  rintro e w1 ⟨rfl, rfl⟩
  rw [← HX.out]
  go_wp2_with fail
  refine (residue_any b m _ HB.out hm0 hm).mono ?_
  rintro e w1 ⟨rfl, rfl⟩
  rw [← HY.out]
  go_wp2_with fail
  refine (Tryd.bits_Mul64 x y (by omega) (by omega) _).mono ?_
  rintro e w1 ⟨rfl, rfl⟩
  rw [← HH.out, ← HL.out]
  go_wp2_with fail
  refine (rem64_any h l m _ hm0 hhb (by omega) hlb).mono ?_
  rintro e w1 ⟨rfl, n, rfl⟩
  rw [HE.out]
  go_wp2_with fail
  go_ret
  exact ⟨rfl, n, rfl⟩
theorem gP_eq : (2305843009213691579 : Int) = ((gP : Nat) : Int) := rfl
theorem gQ_eq : (1152921504606845789 : Int) = ((gQ : Nat) : Int) := rfl
set_option maxRecDepth 100000 in
set_option maxHeartbeats 1000000 in
theorem mul_any (a b : Int) (w : World) (ha : -9223372036854775808 ≤ a ∧ a ≤ 9223372036854775807) (hb : -9223372036854775808 ≤ b ∧ b ≤ 9223372036854775807) :
    Calls Tryd.prog 47 #[.int .i64 a, .int .i64 b] w fun e w' => e = .returned (.int .i64 (mulN a b gP : Nat)) ∧ ∃ n, w' = w.drewN n := by
  go_enter Tryd.func47, Tryd.ntmps47
  go_wp2_with fail
  refine (product_any a b gP _ ha hb (by decide) (by decide)).mono ?_
  rintro e w1 ⟨rfl, n, rfl⟩
  go_wp2_with fail
  go_ret
  exact ⟨rfl, n, rfl⟩
set_option maxRecDepth 100000 in
set_option maxHeartbeats 1000000 in
theorem mulQ_any (a b : Int) (w : World) (ha : -9223372036854775808 ≤ a ∧ a ≤ 9223372036854775807) (hb : -9223372036854775808 ≤ b ∧ b ≤ 9223372036854775807) :
    Calls Tryd.prog 55 #[.int .i64 a, .int .i64 b] w fun e w' => e = .returned (.int .i64 (mulN a b gQ : Nat)) ∧ ∃ n, w' = w.drewN n := by
  go_enter Tryd.func55, Tryd.ntmps55
  go_wp2_with fail
  refine (product_any a b gQ _ ha hb (by decide) (by decide)).mono ?_
  rintro e w1 ⟨rfl, n, rfl⟩
  go_wp2_with fail
  go_ret
  exact ⟨rfl, n, rfl⟩
end Go.Proofs.YtgjklfddoechpaaDoor
