/- Texts merged: NGroup SGroup SExp SIn -/
import Derived.Test.YtepidpegoihllaaGreatDoorNPow
import Derived.Outline
import Derived.Test.YtepidpegoihllaaGreatDoorSDiv
/- The group of order gQ modulo gP: plain laws. -/
namespace Go.Proofs.YtepidpegoihllaaGreatDoor
theorem pow_q {y : Nat} (h : y ^ gQ % gP = 1) (k : Nat) : y ^ (gQ * k) % gP = 1 := by
  have : (1 : Nat) % gP = 1 := by decide
  rw [Nat.pow_mul, pow_one_mod (m := gP) (by rw [this]; exact h) k, this]
theorem pow_red {y : Nat} (h : y ^ gQ % gP = 1) (k : Nat) : y ^ (k % gQ) % gP = y ^ k % gP := by
  have e : y ^ k = y ^ (gQ * (k / gQ)) * y ^ (k % gQ) := by rw [← Nat.pow_add, Nat.div_add_mod]
  rw [e, Nat.mul_mod, pow_q h, Nat.one_mul, Nat.mod_mod]
/-- a power of an element, as an element -/
theorem in_pow {y : Nat} (h : y ^ gQ % gP = 1) (k : Nat) : (y ^ k % gP) ^ gQ % gP = 1 := by
  rw [← Nat.pow_mod, ← Nat.pow_mul, Nat.mul_comm, pow_q h]
theorem in_pos {y : Nat} (h : y ^ gQ % gP = 1) : 1 ≤ y := by
  rcases Nat.eq_zero_or_pos y with h0 | h0
  · rw [h0, Nat.zero_pow (by decide)] at h
    exact absurd h (by decide)
  · exact h0
theorem four_in (x : Nat) : (4 ^ x % gP) ^ gQ % gP = 1 := in_pow four_q x
theorem lt_p (a : Nat) : a % gP < gP := Nat.mod_lt _ (by decide)
/-- what a signature stands for: 4 to the nonce -/
theorem element_is (x n e : Nat) (he : e ≤ gQ) : (4 ^ ((n + e * x) % gQ) % gP) * ((4 ^ x % gP) ^ (gQ - e) % gP) % gP = 4 ^ n % gP := by
  rw [pow_red four_q, ← Nat.pow_mod, ← Nat.mul_mod, ← Nat.pow_mul, ← Nat.pow_add]
  have e1 : n + e * x + x * (gQ - e) = gQ * x + n := by
    obtain ⟨d, hd⟩ : ∃ d, gQ = e + d := ⟨gQ - e, by omega⟩
    rw [hd, Nat.add_sub_cancel_left, Nat.add_mul, Nat.mul_comm x d]
    omega
  rw [e1, Nat.pow_add, Nat.mul_mod, pow_q four_q, Nat.one_mul, Nat.mod_mod]
end Go.Proofs.YtepidpegoihllaaGreatDoor
/- Package group: residue, product, Mul, MulQ, AddQ, Exp, In, Inv. -/
namespace Go.Proofs.YtepidpegoihllaaGreatDoor
open Go.RowKit
/-- the residue of an int -/
def resN (n : Int) (m : Nat) : Nat := (n % (m : Int)).toNat
theorem resN_lt {m : Nat} (n : Int) (h : 0 < m) : resN n m < m := by
  unfold resN
  have h1 := Int.emod_nonneg n (show (m : Int) ≠ 0 by omega)
  have h2 := Int.emod_lt_of_pos n (show (0 : Int) < m by omega)
  omega
theorem resN_cast {m : Nat} (n : Int) (h : 0 < m) : ((resN n m : Nat) : Int) = n % (m : Int) := by
  unfold resN
  have h1 := Int.emod_nonneg n (show (m : Int) ≠ 0 by omega)
  omega
set_option maxRecDepth 100000 in
set_option maxHeartbeats 1000000 in
theorem rem64_any (hi lo y : Nat) (w : World) (hy0 : 0 < y) (hhi : hi < 18446744073709551616) (hy2 : y < 18446744073709551616) (hlo : lo < 18446744073709551616) :
    Calls Tryz.prog 111 #[.int .u64 hi, .int .u64 lo, .int .u64 y] w fun e w' => e = .returned (.int .u64 ((hi * 18446744073709551616 + lo) % y : Nat)) ∧ ∃ n, w' = w.drewN n := by
  obtain ⟨h, hh⟩ : ∃ h, h = hi % y := ⟨_, rfl⟩
  have F1 : (hi : Int) % (y : Int) = (h : Int) := by rw [hh]; exact (Int.natCast_emod hi y).symm
  have HM : Hid ((h * 18446744073709551616 + lo) % y = (hi * 18446744073709551616 + lo) % y) := Lib.hid (by rw [hh, Nat.add_mod, Nat.mul_mod, Nat.mod_mod, ← Nat.mul_mod, ← Nat.add_mod])
  have HL : Hid (h < y) := Lib.hid (by rw [hh]; exact Nat.mod_lt hi hy0)
  have HY2 := Lib.hid hy2
  have HLO := Lib.hid hlo
  have t1 : ((y : Int) = 0) = False := by simp; omega
  clear hh hy2 hlo
  go_enter Tryz.func111, Tryz.ntmps111
  go_wp2_with fail
  refine (div64_any h lo y _ HL.out HY2.out HLO.out).mono ?_
  rintro e w1 ⟨rfl, n, rfl⟩
  rw [HM.out]
  go_wp2_with fail
  go_ret
  exact ⟨rfl, n, rfl⟩
set_option maxRecDepth 100000 in
set_option maxHeartbeats 1000000 in
theorem residue_any (n : Int) (m : Nat) (w : World) (hn : -9223372036854775808 ≤ n ∧ n ≤ 9223372036854775807) (hm0 : 0 < m) (hm : m < 4611686018427387904) :
    Calls Tryz.prog 96 #[.int .i64 n, .int .i64 m] w fun e w' => e = .returned (.int .i64 (resN n m : Nat)) ∧ w' = w := by
  have t1 : ¬ (m : Int) = 0 := by omega
  have hr := resN_cast n hm0
  have hb := Int.emod_lt_of_pos n (show (0 : Int) < m by omega)
  have h0 := Int.emod_nonneg n (show (m : Int) ≠ 0 by omega)
  have HR := Lib.hid hr
  clear hr
  by_cases hneg : 0 ≤ n
  · have F1 : n % (m : Int) = (resN n m : Int) := HR.out.symm
    have F2 : ¬ ((resN n m : Int) < 0) := by omega
    go_enter Tryz.func96, Tryz.ntmps96
    go_wp2_with fail
    go_ret
    exact ⟨by first | rfl | rw [HR.out], rfl⟩
  · obtain ⟨k, hk⟩ : ∃ k : Nat, (k : Int) = (-n) % (m : Int) := ⟨((-n) % (m : Int)).toNat, by have := Int.emod_nonneg (-n) (show (m : Int) ≠ 0 by omega); omega⟩
    have hkm : (k : Int) < m := by rw [hk]; exact Int.emod_lt_of_pos _ (by omega)
    have F1 : n.tmod (m : Int) = -(k : Int) := by
      rw [hk, ← Int.tmod_eq_emod_of_nonneg (show 0 ≤ -n by omega), Int.neg_tmod, Int.neg_neg]
    have e1 : n = -(k : Int) + (m : Int) * (-((-n) / (m : Int))) := by
      have := Int.emod_add_mul_ediv (-n) (m : Int)
      rw [← hk] at this
      rw [Int.mul_neg]
      omega
    have e2 : n % (m : Int) = (-(k : Int)) % (m : Int) := by
      conv => lhs; rw [e1]
      exact Int.add_mul_emod_self_left _ _ _
    by_cases h0k : k = 0
    · have HE : Hid ((resN n m : Int) = 0) := Lib.hid (by rw [HR.out, e2, h0k]; simp)
      have F3 : ¬ (-(k : Int) < 0) := by omega
      clear hk e1 e2
      go_enter Tryz.func96, Tryz.ntmps96
      go_wp2_with fail
      go_ret
      exact ⟨by rw [HE.out]; first | rfl | (congr 2; omega), rfl⟩
    · have HE : Hid ((resN n m : Int) = -(k : Int) + m) := Lib.hid (by
        rw [HR.out, e2, ← Int.add_emod_right, Int.emod_eq_of_lt (by omega) (by omega)])
      have F3 : -(k : Int) < 0 := by omega
      clear hk e1 e2
      go_enter Tryz.func96, Tryz.ntmps96
      go_wp2_with fail
      go_ret
      exact ⟨by rw [HE.out]; first | rfl | (congr 2; omega), rfl⟩
/-- the product of two residues -/
def mulN (a b : Int) (m : Nat) : Nat := resN a m * resN b m % m
theorem mulN_lt {m : Nat} (a b : Int) (h : 0 < m) : mulN a b m < m := Nat.mod_lt _ h
theorem resN_of {n m : Nat} (h : n < m) : resN (n : Int) m = n := by
  unfold resN
  rw [Int.emod_eq_of_lt (by omega) (by omega), Int.toNat_natCast]
set_option maxRecDepth 100000 in
set_option maxHeartbeats 2000000 in
theorem product_any (a b : Int) (m : Nat) (w : World) (ha : -9223372036854775808 ≤ a ∧ a ≤ 9223372036854775807) (hb : -9223372036854775808 ≤ b ∧ b ≤ 9223372036854775807) (hm0 : 0 < m) (hm : m < 4611686018427387904) :
    Calls Tryz.prog 100 #[.int .i64 a, .int .i64 b, .int .i64 m] w fun e w' => e = .returned (.int .i64 (mulN a b m : Nat)) ∧ ∃ n, w' = w.drewN n := by
  obtain ⟨x, hx⟩ : ∃ x, x = resN a m := ⟨_, rfl⟩
  obtain ⟨y, hy⟩ : ∃ y, y = resN b m := ⟨_, rfl⟩
  have hxm : x < m := by rw [hx]; exact resN_lt a hm0
  have hym : y < m := by rw [hy]; exact resN_lt b hm0
  obtain ⟨h, hh⟩ : ∃ h, h = x * y / 18446744073709551616 := ⟨_, rfl⟩
  obtain ⟨l, hl⟩ : ∃ l, l = x * y % 18446744073709551616 := ⟨_, rfl⟩
  have hhb : h < 18446744073709551616 := by
    rw [hh, Nat.div_lt_iff_lt_mul (by decide)]
    have := Nat.mul_lt_mul_of_lt_of_lt hxm hym
    have h2 := Nat.mul_le_mul (Nat.le_of_lt hm) (Nat.le_of_lt hm)
    exact Nat.lt_of_lt_of_le this (Nat.le_trans h2 (by decide))
  have hlb : l < 18446744073709551616 := by rw [hl]; exact Nat.mod_lt _ (by decide)
  have HE : Hid ((h * 18446744073709551616 + l) % m = mulN a b m) := Lib.hid (by
    unfold mulN
    rw [← hx, ← hy, hh, hl, Nat.div_add_mod'])
  have hrm := mulN_lt a b hm0
  have HA := Lib.hid ha
  have HB := Lib.hid hb
  have HX := Lib.hid hx
  have HY := Lib.hid hy
  have HH := Lib.hid hh
  have HL := Lib.hid hl
  clear ha hb hx hy hh hl
  go_enter Tryz.func100, Tryz.ntmps100
  go_wp2_with fail
  refine (residue_any a m _ HA.out hm0 hm).mono ?_
  rintro e w1 ⟨rfl, rfl⟩
  rw [← HX.out]
  go_wp2_with fail
  refine (residue_any b m _ HB.out hm0 hm).mono ?_
  rintro e w1 ⟨rfl, rfl⟩
  rw [← HY.out]
  go_wp2_with fail
  refine (Tryz.bits_Mul64 x y (by omega) (by omega) _).mono ?_
  rintro e w1 ⟨rfl, rfl⟩
  rw [← HH.out, ← HL.out]
  go_wp2_with fail
  refine (rem64_any h l m _ hm0 hhb (by omega) hlb).mono ?_
  rintro e w1 ⟨rfl, n, rfl⟩
  rw [HE.out]
  go_wp2_with fail
  go_ret
  exact ⟨rfl, n, rfl⟩
set_option maxRecDepth 100000 in
set_option maxHeartbeats 1000000 in
theorem mul_any (a b : Int) (w : World) (ha : -9223372036854775808 ≤ a ∧ a ≤ 9223372036854775807) (hb : -9223372036854775808 ≤ b ∧ b ≤ 9223372036854775807) :
    Calls Tryz.prog 90 #[.int .i64 a, .int .i64 b] w fun e w' => e = .returned (.int .i64 (mulN a b gP : Nat)) ∧ ∃ n, w' = w.drewN n := by
  go_enter Tryz.func90, Tryz.ntmps90
  go_wp2_with fail
  refine (product_any a b gP _ ha hb (by decide) (by decide)).mono ?_
  rintro e w1 ⟨rfl, n, rfl⟩
  go_wp2_with fail
  go_ret
  exact ⟨rfl, n, rfl⟩
set_option maxRecDepth 100000 in
set_option maxHeartbeats 1000000 in
theorem mulQ_any (a b : Int) (w : World) (ha : -9223372036854775808 ≤ a ∧ a ≤ 9223372036854775807) (hb : -9223372036854775808 ≤ b ∧ b ≤ 9223372036854775807) :
    Calls Tryz.prog 80 #[.int .i64 a, .int .i64 b] w fun e w' => e = .returned (.int .i64 (mulN a b gQ : Nat)) ∧ ∃ n, w' = w.drewN n := by
  go_enter Tryz.func80, Tryz.ntmps80
  go_wp2_with fail
  refine (product_any a b gQ _ ha hb (by decide) (by decide)).mono ?_
  rintro e w1 ⟨rfl, n, rfl⟩
  go_wp2_with fail
  go_ret
  exact ⟨rfl, n, rfl⟩
end Go.Proofs.YtepidpegoihllaaGreatDoor
/- group.Exp is the power. -/
namespace Go.Proofs.YtepidpegoihllaaGreatDoor
open Go.RowKit
theorem half_step (E k : Nat) (hk : k < 63) : E / 2 ^ (62 - k) = 2 * (E / 2 ^ (63 - k)) + E / 2 ^ (62 - k) % 2 := by
  have e : 2 ^ (63 - k) = 2 ^ (62 - k) * 2 := by rw [← Nat.pow_succ]; congr 1; omega
  rw [e, ← Nat.div_div_eq_div_mul]
  omega
theorem sq_step (x P t b : Nat) (hb : b = t % 2) : x ^ t % P = (x ^ (t / 2) % P) * (x ^ (t / 2) % P) % P * (if b = 1 then x else 1) % P := by
  have e : x ^ t = x ^ (t / 2) * x ^ (t / 2) * (if b = 1 then x else 1) := by
    conv => lhs; rw [← Nat.div_add_mod t 2, Nat.pow_add, Nat.two_mul, Nat.pow_add, ← hb]
    have : b = 0 ∨ b = 1 := by omega
    rcases this with h | h <;> rw [h] <;> simp
  rw [e, Nat.mul_mod (x ^ (t / 2) * x ^ (t / 2)), Nat.mul_mod (x ^ (t / 2))]
  simp [Nat.mul_mod]
theorem and1 (t : Nat) (h : t < 9223372036854775808) : bits .and .i64 (t : Int) 1 = ((t % 2 : Nat) : Int) := by
  show IntKind.i64.wrap ((BitVec.ofInt 64 (t : Int) &&& BitVec.ofInt 64 ((1 : Nat) : Int)).toNat : Int) = _
  rw [BitVec.toNat_and, BitVec.ofInt_natCast, BitVec.ofInt_natCast, BitVec.toNat_ofNat, BitVec.toNat_ofNat, Nat.mod_eq_of_lt (show t < 2 ^ 64 by omega), Nat.mod_eq_of_lt (show 1 < 2 ^ 64 by decide), Nat.and_one_is_mod]
  exact IntWalk.i64_in _ (by omega)
set_option maxRecDepth 100000 in
set_option maxHeartbeats 4000000 in
/-- the loop, for an exponent that is not negative -/
theorem exp_pos (a : Int) (E : Nat) (w : World) (ha : -9223372036854775808 ≤ a ∧ a ≤ 9223372036854775807) (hE : E < 9223372036854775808) :
    Calls Tryz.prog 72 #[.int .i64 a, .int .i64 E] w fun e w' => e = .returned (.int .i64 (resN a gP ^ E % gP : Nat)) ∧ ∃ n, w' = w.drewN n := by
  obtain ⟨x, hx⟩ : ∃ x, x = resN a gP := ⟨_, rfl⟩
  have HX := Lib.hid hx
  rw [← hx]
  clear hx
  go_enter Tryz.func72, Tryz.ntmps72
  go_wp2_with fail
  go_loopw [5, 11] (fun pv iv wr => ∃ k n : Nat, k ≤ 63 ∧ iv = .int .i64 k ∧ pv = .int .i64 (x ^ (E / 2 ^ (63 - k)) % gP : Nat) ∧ wr = w.drewN n) (fun _ iv _ => 63 - (Go.RowKit.intOf iv).toNat)
  case atStart =>
    refine ⟨0, 0, by omega, rfl, ?_, rfl⟩
    rw [Nat.sub_zero, Nat.div_eq_of_lt (show E < 2 ^ 63 from hE), Nat.pow_zero]
    rfl
  case round =>
    obtain ⟨k, n, hk, rfl, rfl, rfl⟩ := hrel
    obtain ⟨p, hp⟩ : ∃ p, p = x ^ (E / 2 ^ (63 - k)) % gP := ⟨_, rfl⟩
    have hpb : p < 2305843009213691579 := by rw [hp]; exact lt_p _
    have HP := Lib.hid hp
    rw [← hp]
    clear hp
    by_cases hlt : k < 63
    · obtain ⟨t, ht⟩ : ∃ t, t = E / 2 ^ (62 - k) := ⟨_, rfl⟩
      have htE : t < 9223372036854775808 := by rw [ht]; exact Nat.lt_of_le_of_lt (Nat.div_le_self _ _) hE
      obtain ⟨bt, hbt⟩ : ∃ bt, bt = t % 2 := ⟨_, rfl⟩
      have FT : (E : Int) / 2 ^ (62 - k) = (t : Int) := by rw [ht, Int.natCast_ediv, Int.natCast_pow]; rfl
      have FB : bits .and .i64 (t : Int) 1 = (bt : Int) := by rw [hbt]; exact and1 t htE
      have hst := half_step E k hlt
      rw [← ht] at hst
      have hsq := sq_step x gP t bt hbt
      rw [show t / 2 = E / 2 ^ (63 - k) by omega, ← HP.out] at hsq
      have HSQ := Lib.hid hsq
      have hk1 : 63 - (k + 1) = 62 - k := by omega
      have HT : Hid (E / 2 ^ (63 - (k + 1)) = t) := Lib.hid (by rw [hk1, ht])
      have HA := Lib.hid ha
      clear hst hsq ht hk1 ha
      by_cases hb1 : bt = 1
      · have T1 : ((bt : Int) == 1) = true := by rw [beq_iff_eq]; omega
        have HB1 := Lib.hid hb1
        clear hb1 hbt
        go_wp2_with fail
        refine (mul_any p p _ (by omega) (by omega)).mono ?_
        rintro e w1 ⟨rfl, n1, rfl⟩
        have hm := mulN_lt p p (show 0 < gP by decide)
        have HM : Hid (mulN p p gP = p * p % gP) := Lib.hid (by unfold mulN; rw [resN_of (show p < gP from hpb)])
        obtain ⟨m, hmm⟩ : ∃ m, m = mulN p p gP := ⟨_, rfl⟩
        have hmb : m < 2305843009213691579 := by rw [hmm]; exact hm
        rw [← hmm] at HM ⊢
        clear hm hmm
        go_wp2_with fail
        refine (mul_any m a _ (by omega) HA.out).mono ?_
        rintro e w1 ⟨rfl, n2, rfl⟩
        have HR : Hid (mulN m a gP = x ^ t % gP) := Lib.hid (by
          unfold mulN
          rw [resN_of (show m < gP from hmb), ← HX.out, HSQ.out, HM.out, if_pos HB1.out])
        obtain ⟨z, hz⟩ : ∃ z, z = x ^ t % gP := ⟨_, rfl⟩
        have HZ := Lib.hid hz
        rw [HR.out, ← hz]
        clear hz
        go_wp2_with fail
        go_roundw
        case rel => exact ⟨k + 1, n + n1 + n2, by omega, by go_num, by rw [HT.out, ← HZ.out], by simp [World.drewN, Nat.add_assoc]⟩
        case measure => simp [Go.RowKit.intOf]; omega
      · have T1 : ((bt : Int) == 1) = false := by rw [beq_eq_false_iff_ne]; omega
        have HB1 := Lib.hid hb1
        clear hb1 hbt
        go_wp2_with fail
        refine (mul_any p p _ (by omega) (by omega)).mono ?_
        rintro e w1 ⟨rfl, n1, rfl⟩
        have HR : Hid (mulN p p gP = x ^ t % gP) := Lib.hid (by
          unfold mulN
          rw [resN_of (show p < gP from hpb), HSQ.out, if_neg HB1.out, Nat.mul_one, Nat.mod_mod])
        obtain ⟨z, hz⟩ : ∃ z, z = x ^ t % gP := ⟨_, rfl⟩
        have HZ := Lib.hid hz
        rw [HR.out, ← hz]
        clear hz
        go_wp2_with fail
        go_roundw
        case rel => exact ⟨k + 1, n + n1, by omega, by go_num, by rw [HT.out, ← HZ.out], by simp [World.drewN]⟩
        case measure => simp [Go.RowKit.intOf]; omega
    · obtain rfl : k = 63 := by omega
      have HR : Hid (p = x ^ E % gP) := Lib.hid (by rw [HP.out]; simp)
      go_wp2_with fail
      go_ret
      exact ⟨by rw [← HR.out]; rfl, n, rfl⟩
set_option maxRecDepth 100000 in
set_option maxHeartbeats 4000000 in
theorem exp_any (a e0 : Int) (w : World) (ha : -9223372036854775808 ≤ a ∧ a ≤ 9223372036854775807) (he : 0 ≤ e0 ∧ e0 ≤ 9223372036854775807) :
    Calls Tryz.prog 72 #[.int .i64 a, .int .i64 e0] w fun e w' => e = .returned (.int .i64 (resN a gP ^ e0.toNat % gP : Nat)) ∧ ∃ n, w' = w.drewN n := by
  obtain ⟨E, rfl⟩ : ∃ E : Nat, e0 = E := ⟨e0.toNat, by omega⟩
  rw [Int.toNat_natCast]
  exact exp_pos a E w ha (by omega)
end Go.Proofs.YtepidpegoihllaaGreatDoor
/- group.In, Inv, AddQ. -/
namespace Go.Proofs.YtepidpegoihllaaGreatDoor
open Go.RowKit
def InG (y : Int) : Prop := 1 ≤ y ∧ y < 2305843009213691579 ∧ y.toNat ^ gQ % gP = 1
instance (y : Int) : Decidable (InG y) := by
  unfold InG
  exact @instDecidableAnd _ _ _ (@instDecidableAnd _ _ _ (Nat.decEq _ _))
theorem resN_in {y : Int} (h1 : 1 ≤ y) (h2 : y < 2305843009213691579) : resN y gP = y.toNat := by
  obtain ⟨n, rfl⟩ : ∃ n : Nat, y = n := ⟨y.toNat, by omega⟩
  rw [Int.toNat_natCast]
  exact resN_of (show n < 2305843009213691579 by omega)
set_option maxRecDepth 100000 in
set_option maxHeartbeats 2000000 in
theorem in_any (y : Int) (w : World) (hy : -9223372036854775808 ≤ y ∧ y ≤ 9223372036854775807) :
    ∃ b : Bool, (b = true ↔ InG y) ∧ Calls Tryz.prog 89 #[.int .i64 y] w fun e w' => e = .returned (.bool b) ∧ ∃ n, w' = w.drewN n := by
  by_cases h1 : 1 ≤ y
  · by_cases h2 : y < 2305843009213691579
    · obtain ⟨z, hz⟩ : ∃ z, z = resN y gP ^ (1152921504606845789 : Int).toNat % gP := ⟨_, rfl⟩
      have hz2 : z = y.toNat ^ gQ % gP := by rw [hz, resN_in h1 h2]; rfl
      have HZ := Lib.hid hz
      have HY := Lib.hid hy
      clear hz hy
      have t1 : decide (1 ≤ y) = true := decide_eq_true h1
      have t2 : decide (y < 2305843009213691579) = true := decide_eq_true h2
      by_cases h3 : z = 1
      · refine ⟨true, ⟨fun _ => ⟨h1, h2, by rw [← hz2]; exact h3⟩, fun _ => rfl⟩, ?_⟩
        have H3 := Lib.hid h3
        have t3 : ((z : Int) == 1) = true := by rw [beq_iff_eq]; omega
        clear h1 h2 h3 hz2
        go_enter Tryz.func89, Tryz.ntmps89
        go_wp2_with fail
        refine (exp_any y 1152921504606845789 _ HY.out (by decide)).mono ?_
        rintro e w1 ⟨rfl, n, rfl⟩
        rw [← HZ.out]
        go_wp2_with fail
        go_ret
        exact ⟨rfl, n, rfl⟩
      · refine ⟨false, ⟨(fun h => by cases h), fun h => absurd (hz2.trans h.2.2) h3⟩, ?_⟩
        have t3 : ((z : Int) == 1) = false := by rw [beq_eq_false_iff_ne]; omega
        clear h1 h2 h3 hz2
        go_enter Tryz.func89, Tryz.ntmps89
        go_wp2_with fail
        refine (exp_any y 1152921504606845789 _ HY.out (by decide)).mono ?_
        rintro e w1 ⟨rfl, n, rfl⟩
        rw [← HZ.out]
        go_wp2_with fail
        go_ret
        exact ⟨rfl, n, rfl⟩
    · refine ⟨false, ⟨(fun h => by cases h), fun h => absurd h.2.1 h2⟩, ?_⟩
      have t1 : decide (1 ≤ y) = true := decide_eq_true h1
      have t2 : decide (y < 2305843009213691579) = false := decide_eq_false h2
      clear h1 h2
      go_enter Tryz.func89, Tryz.ntmps89
      go_wp2_with fail
      go_ret
      exact ⟨rfl, 0, rfl⟩
  · refine ⟨false, ⟨(fun h => by cases h), fun h => absurd h.1 h1⟩, ?_⟩
    have t1 : decide (1 ≤ y) = false := decide_eq_false h1
    clear h1
    go_enter Tryz.func89, Tryz.ntmps89
    go_wp2_with fail
    go_ret
    exact ⟨rfl, 0, rfl⟩
set_option maxRecDepth 100000 in
set_option maxHeartbeats 2000000 in
theorem addQ_any (a b : Int) (w : World) (ha : -9223372036854775808 ≤ a ∧ a ≤ 9223372036854775807) (hb : -9223372036854775808 ≤ b ∧ b ≤ 9223372036854775807) :
    Calls Tryz.prog 79 #[.int .i64 a, .int .i64 b] w fun e w' => e = .returned (.int .i64 ((resN a gQ + resN b gQ) % gQ : Nat)) ∧ w' = w := by
  obtain ⟨x, hx⟩ : ∃ x, x = resN a gQ := ⟨_, rfl⟩
  obtain ⟨y, hy⟩ : ∃ y, y = resN b gQ := ⟨_, rfl⟩
  have hxm : x < 1152921504606845789 := by rw [hx]; exact resN_lt a (show 0 < gQ by decide)
  have hym : y < 1152921504606845789 := by rw [hy]; exact resN_lt b (show 0 < gQ by decide)
  obtain ⟨z, hz⟩ : ∃ z, z = (x + y) % gQ := ⟨_, rfl⟩
  have FZ : ((x : Int) + (y : Int)) % 1152921504606845789 = (z : Int) := by rw [hz]; exact (Int.natCast_emod (x + y) gQ).symm
  have HX := Lib.hid hx
  have HY := Lib.hid hy
  have HZ := Lib.hid hz
  have HA := Lib.hid ha
  have HB := Lib.hid hb
  rw [← hx, ← hy, ← hz]
  clear hx hy hz ha hb
  go_enter Tryz.func79, Tryz.ntmps79
  go_wp2_with fail
  refine (residue_any a gQ _ HA.out (by decide) (by decide)).mono ?_
  rintro e w1 ⟨rfl, rfl⟩
  rw [← HX.out]
  go_wp2_with fail
  refine (residue_any b gQ _ HB.out (by decide) (by decide)).mono ?_
  rintro e w1 ⟨rfl, rfl⟩
  rw [← HY.out]
  go_wp2_with fail
  go_ret
  exact ⟨congrArg (fun v => Ending.returned (Value.int .i64 v)) FZ, rfl⟩
end Go.Proofs.YtepidpegoihllaaGreatDoor
