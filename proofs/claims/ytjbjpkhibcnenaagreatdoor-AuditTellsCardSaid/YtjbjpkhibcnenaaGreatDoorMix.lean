/- Texts merged: SGroup SExp SIn Base Mix -/
import Derived.Outline
import Derived.Test.YtjbjpkhibcnenaaGreatDoorNGroup
import Derived.WalkKit
import Derived.WalkLawsBesides
import Derived.Lib.Hide
import Derived.Deep.Draws
import Derived.Deep.WholeRow
import Derived.Deep.MidRow
import Derived.StillTailTactics
import Derived.Deep.RegionHeld3
import Derived.Laws.IdiomStrings
import Derived.Laws.BytesArg
import Derived.Test.YtjbjpkhibcnenaaGreatDoorProg
import Derived.BigQuiet
import Derived.Deep.QuietTactic
import Derived.Deep.DeepCutAuto
/- Package group: residue, product, Mul, MulQ, AddQ, Exp, In, Inv. -/
namespace Go.Proofs.YtjbjpkhibcnenaaGreatDoor
set_option maxRecDepth 100000
set_option maxHeartbeats 2000000
open Go.RowKit
/-- the residue of an int -/
def resN (n : Int) (m : Nat) : Nat := (n % (m : Int)).toNat
theorem resN_lt {m : Nat} (n : Int) (h : 0 < m) : resN n m < m := by
 unfold resN
 have h1 := Int.emod_nonneg n (show (m : Int) ≠ 0 by omega)
 have h2 := Int.emod_lt_of_pos n (show (0 : Int) < m by omega)
 omega
theorem resN_cast {m : Nat} (n : Int) (h : 0 < m) : ((resN n m : Nat) : Int) = n % (m : Int) := by
 unfold resN
 have h1 := Int.emod_nonneg n (show (m : Int) ≠ 0 by omega)
 omega
theorem rem64_any (hi lo y : Nat) (w : World) (hy0 : 0 < y) (hhi : hi < 18446744073709551616) (hy2 : y < 18446744073709551616) (hlo : lo < 18446744073709551616) :
 Calls Tryz.prog 154 #[.int .u64 hi, .int .u64 lo, .int .u64 y] w fun e w' => e = .returned (.int .u64 ((hi * 18446744073709551616 + lo) % y : Nat)) ∧ ∃ n, w' = w.drewN n := by
 obtain ⟨h, hh⟩ : ∃ h, h = hi % y := ⟨_, rfl⟩
 have F1 : (hi : Int) % (y : Int) = (h : Int) := by rw [hh]; exact (Int.natCast_emod hi y).symm
 have HM : Hid ((h * 18446744073709551616 + lo) % y = (hi * 18446744073709551616 + lo) % y) := Lib.hid (by rw [hh, Nat.add_mod, Nat.mul_mod, Nat.mod_mod, ← Nat.mul_mod, ← Nat.add_mod])
 have HL : Hid (h < y) := Lib.hid (by rw [hh]; exact Nat.mod_lt hi hy0)
 have HY2 := Lib.hid hy2
 have HLO := Lib.hid hlo
 have t1 : ((y : Int) = 0) = False := by simp; omega
 clear hh hy2 hlo
 go_enter Tryz.func154, Tryz.ntmps154
 go_wp2_with fail
 refine (div64_any h lo y _ HL.out HY2.out HLO.out).mono ?_
 rintro e w1 ⟨rfl, n, rfl⟩
 rw [HM.out]
 go_wp2_with fail
 go_ret
 exact ⟨rfl, n, rfl⟩
theorem residue_any (n : Int) (m : Nat) (w : World) (hn : -9223372036854775808 ≤ n ∧ n ≤ 9223372036854775807) (hm0 : 0 < m) (hm : m < 4611686018427387904) :
 Calls Tryz.prog 138 #[.int .i64 n, .int .i64 m] w fun e w' => e = .returned (.int .i64 (resN n m : Nat)) ∧ w' = w := by
 have t1 : ¬ (m : Int) = 0 := by omega
 have hr := resN_cast n hm0
 have hb := Int.emod_lt_of_pos n (show (0 : Int) < m by omega)
 have h0 := Int.emod_nonneg n (show (m : Int) ≠ 0 by omega)
 have HR := Lib.hid hr
 clear hr
 by_cases hneg : 0 ≤ n
 ·
  have F1 : n % (m : Int) = (resN n m : Int) := HR.out.symm
  have F2 : ¬ ((resN n m : Int) < 0) := by omega
  go_enter Tryz.func138, Tryz.ntmps138
  go_wp2_with fail
  go_ret
  exact ⟨by first | rfl | rw [HR.out], rfl⟩
 ·
  obtain ⟨k, hk⟩ : ∃ k : Nat, (k : Int) = (-n) % (m : Int) := ⟨((-n) % (m : Int)).toNat, by have := Int.emod_nonneg (-n) (show (m : Int) ≠ 0 by omega); omega⟩
  have hkm : (k : Int) < m := by rw [hk]; exact Int.emod_lt_of_pos _ (by omega)
  have F1 : n.tmod (m : Int) = -(k : Int) := by
   rw [hk, ← Int.tmod_eq_emod_of_nonneg (show 0 ≤ -n by omega), Int.neg_tmod, Int.neg_neg]
  have e1 : n = -(k : Int) + (m : Int) * (-((-n) / (m : Int))) := by
   have := Int.emod_add_mul_ediv (-n) (m : Int)
   rw [← hk] at this
   rw [Int.mul_neg]
   omega
  have e2 : n % (m : Int) = (-(k : Int)) % (m : Int) := by
   conv => lhs; rw [e1]
   exact Int.add_mul_emod_self_left _ _ _
  by_cases h0k : k = 0
  ·
   have HE : Hid ((resN n m : Int) = 0) := Lib.hid (by rw [HR.out, e2, h0k]; simp)
   have F3 : ¬ (-(k : Int) < 0) := by omega
   clear hk e1 e2
   go_enter Tryz.func138, Tryz.ntmps138
   go_wp2_with fail
   go_ret
   exact ⟨by rw [HE.out]; first | rfl | (congr 2; omega), rfl⟩
  ·
   have HE : Hid ((resN n m : Int) = -(k : Int) + m) := Lib.hid (by
    rw [HR.out, e2, ← Int.add_emod_right, Int.emod_eq_of_lt (by omega) (by omega)])
   have F3 : -(k : Int) < 0 := by omega
   clear hk e1 e2
   go_enter Tryz.func138, Tryz.ntmps138
   go_wp2_with fail
   go_ret
   exact ⟨by rw [HE.out]; first | rfl | (congr 2; omega), rfl⟩
/-- the product of two residues -/
def mulN (a b : Int) (m : Nat) : Nat := resN a m * resN b m % m
theorem mulN_lt {m : Nat} (a b : Int) (h : 0 < m) : mulN a b m < m := Nat.mod_lt _ h
theorem resN_of {n m : Nat} (h : n < m) : resN (n : Int) m = n := by
 unfold resN
 rw [Int.emod_eq_of_lt (by omega) (by omega), Int.toNat_natCast]
theorem product_any (a b : Int) (m : Nat) (w : World) (ha : -9223372036854775808 ≤ a ∧ a ≤ 9223372036854775807) (hb : -9223372036854775808 ≤ b ∧ b ≤ 9223372036854775807) (hm0 : 0 < m) (hm : m < 4611686018427387904) :
 Calls Tryz.prog 139 #[.int .i64 a, .int .i64 b, .int .i64 m] w fun e w' => e = .returned (.int .i64 (mulN a b m : Nat)) ∧ ∃ n, w' = w.drewN n := by
 obtain ⟨x, hx⟩ : ∃ x, x = resN a m := ⟨_, rfl⟩
 obtain ⟨y, hy⟩ : ∃ y, y = resN b m := ⟨_, rfl⟩
 have hxm : x < m := by rw [hx]; exact resN_lt a hm0
 have hym : y < m := by rw [hy]; exact resN_lt b hm0
 obtain ⟨h, hh⟩ : ∃ h, h = x * y / 18446744073709551616 := ⟨_, rfl⟩
 obtain ⟨l, hl⟩ : ∃ l, l = x * y % 18446744073709551616 := ⟨_, rfl⟩
 have hhb : h < 18446744073709551616 := by
  rw [hh, Nat.div_lt_iff_lt_mul (by decide)]
  have := Nat.mul_lt_mul_of_lt_of_lt hxm hym
  have h2 := Nat.mul_le_mul (Nat.le_of_lt hm) (Nat.le_of_lt hm)
  exact Nat.lt_of_lt_of_le this (Nat.le_trans h2 (by decide))
 have hlb : l < 18446744073709551616 := by rw [hl]; exact Nat.mod_lt _ (by decide)
 have HE : Hid ((h * 18446744073709551616 + l) % m = mulN a b m) := Lib.hid (by
  unfold mulN
  rw [← hx, ← hy, hh, hl, Nat.div_add_mod'])
 have hrm := mulN_lt a b hm0
 have HA := Lib.hid ha
 have HB := Lib.hid hb
 have HX := Lib.hid hx
 have HY := Lib.hid hy
 have HH := Lib.hid hh
 have HL := Lib.hid hl
 clear ha hb hx hy hh hl
 go_enter Tryz.func139, Tryz.ntmps139
 go_wp2_with fail
 refine (residue_any a m _ HA.out hm0 hm).mono ?_
 rintro e w1 ⟨rfl, rfl⟩
 rw [← HX.out]
 go_wp2_with fail
 refine (residue_any b m _ HB.out hm0 hm).mono ?_
 rintro e w1 ⟨rfl, rfl⟩
 rw [← HY.out]
 go_wp2_with fail
 refine (Tryz.bits_Mul64 x y (by omega) (by omega) _).mono ?_
 rintro e w1 ⟨rfl, rfl⟩
 rw [← HH.out, ← HL.out]
 go_wp2_with fail
 refine (rem64_any h l m _ hm0 hhb (by omega) hlb).mono ?_
 rintro e w1 ⟨rfl, n, rfl⟩
 rw [HE.out]
 go_wp2_with fail
 go_ret
 exact ⟨rfl, n, rfl⟩
theorem mul_any (a b : Int) (w : World) (ha : -9223372036854775808 ≤ a ∧ a ≤ 9223372036854775807) (hb : -9223372036854775808 ≤ b ∧ b ≤ 9223372036854775807) :
 Calls Tryz.prog 124 #[.int .i64 a, .int .i64 b] w fun e w' => e = .returned (.int .i64 (mulN a b gP : Nat)) ∧ ∃ n, w' = w.drewN n := by
 go_enter Tryz.func124, Tryz.ntmps124
 go_wp2_with fail
 refine (product_any a b gP _ ha hb (by decide) (by decide)).mono ?_
 rintro e w1 ⟨rfl, n, rfl⟩
 go_wp2_with fail
 go_ret
 exact ⟨rfl, n, rfl⟩
theorem mulQ_any (a b : Int) (w : World) (ha : -9223372036854775808 ≤ a ∧ a ≤ 9223372036854775807) (hb : -9223372036854775808 ≤ b ∧ b ≤ 9223372036854775807) :
 Calls Tryz.prog 117 #[.int .i64 a, .int .i64 b] w fun e w' => e = .returned (.int .i64 (mulN a b gQ : Nat)) ∧ ∃ n, w' = w.drewN n := by
 go_enter Tryz.func117, Tryz.ntmps117
 go_wp2_with fail
 refine (product_any a b gQ _ ha hb (by decide) (by decide)).mono ?_
 rintro e w1 ⟨rfl, n, rfl⟩
 go_wp2_with fail
 go_ret
 exact ⟨rfl, n, rfl⟩
end Go.Proofs.YtjbjpkhibcnenaaGreatDoor
/- group.Exp is the power. -/
namespace Go.Proofs.YtjbjpkhibcnenaaGreatDoor
set_option maxRecDepth 100000
set_option maxHeartbeats 4000000
open Go.RowKit
theorem half_step (E k : Nat) (hk : k < 63) : E / 2 ^ (62 - k) = 2 * (E / 2 ^ (63 - k)) + E / 2 ^ (62 - k) % 2 := by
 have e : 2 ^ (63 - k) = 2 ^ (62 - k) * 2 := by rw [← Nat.pow_succ]; congr 1; omega
 rw [e, ← Nat.div_div_eq_div_mul]
 omega
theorem sq_step (x P t b : Nat) (hb : b = t % 2) : x ^ t % P = (x ^ (t / 2) % P) * (x ^ (t / 2) % P) % P * (if b = 1 then x else 1) % P := by
 have e : x ^ t = x ^ (t / 2) * x ^ (t / 2) * (if b = 1 then x else 1) := by
  conv => lhs; rw [← Nat.div_add_mod t 2, Nat.pow_add, Nat.two_mul, Nat.pow_add, ← hb]
  have : b = 0 ∨ b = 1 := by omega
  rcases this with h | h <;> rw [h] <;> simp
 rw [e, Nat.mul_mod (x ^ (t / 2) * x ^ (t / 2)), Nat.mul_mod (x ^ (t / 2))]
 simp [Nat.mul_mod]
theorem and1 (t : Nat) (h : t < 9223372036854775808) : bits .and .i64 (t : Int) 1 = ((t % 2 : Nat) : Int) := by
 show IntKind.i64.wrap ((BitVec.ofInt 64 (t : Int) &&& BitVec.ofInt 64 ((1 : Nat) : Int)).toNat : Int) = _
 rw [BitVec.toNat_and, BitVec.ofInt_natCast, BitVec.ofInt_natCast, BitVec.toNat_ofNat, BitVec.toNat_ofNat, Nat.mod_eq_of_lt (show t < 2 ^ 64 by omega), Nat.mod_eq_of_lt (show 1 < 2 ^ 64 by decide), Nat.and_one_is_mod]
 exact IntWalk.i64_in _ (by omega)
/-- the loop, for an exponent that is not negative -/
theorem exp_pos (a : Int) (E : Nat) (w : World) (ha : -9223372036854775808 ≤ a ∧ a ≤ 9223372036854775807) (hE : E < 9223372036854775808) :
 Calls Tryz.prog 115 #[.int .i64 a, .int .i64 E] w fun e w' => e = .returned (.int .i64 (resN a gP ^ E % gP : Nat)) ∧ ∃ n, w' = w.drewN n := by
 obtain ⟨x, hx⟩ : ∃ x, x = resN a gP := ⟨_, rfl⟩
 have HX := Lib.hid hx
 rw [← hx]
 clear hx
 go_enter Tryz.func115, Tryz.ntmps115
 go_wp2_with fail
 go_loopw [5, 11] (fun pv iv wr => ∃ k n : Nat, k ≤ 63 ∧ iv = .int .i64 k ∧ pv = .int .i64 (x ^ (E / 2 ^ (63 - k)) % gP : Nat) ∧ wr = w.drewN n) (fun _ iv _ => 63 - (intOf iv).toNat)
 case atStart =>
  refine ⟨0, 0, by omega, rfl, ?_, rfl⟩
  rw [Nat.sub_zero, Nat.div_eq_of_lt (show E < 2 ^ 63 from hE), Nat.pow_zero]
  rfl
 case round =>
  obtain ⟨k, n, hk, rfl, rfl, rfl⟩ := hrel
  obtain ⟨p, hp⟩ : ∃ p, p = x ^ (E / 2 ^ (63 - k)) % gP := ⟨_, rfl⟩
  have hpb : p < 2305843009213691579 := by rw [hp]; exact lt_p _
  have HP := Lib.hid hp
  rw [← hp]
  clear hp
  by_cases hlt : k < 63
  ·
   obtain ⟨t, ht⟩ : ∃ t, t = E / 2 ^ (62 - k) := ⟨_, rfl⟩
   have htE : t < 9223372036854775808 := by rw [ht]; exact Nat.lt_of_le_of_lt (Nat.div_le_self _ _) hE
   obtain ⟨bt, hbt⟩ : ∃ bt, bt = t % 2 := ⟨_, rfl⟩
   have FT : (E : Int) / 2 ^ (62 - k) = (t : Int) := by rw [ht, Int.natCast_ediv, Int.natCast_pow]; rfl
   have FB : bits .and .i64 (t : Int) 1 = (bt : Int) := by rw [hbt]; exact and1 t htE
   have hst := half_step E k hlt
   rw [← ht] at hst
   have hsq := sq_step x gP t bt hbt
   rw [show t / 2 = E / 2 ^ (63 - k) by omega, ← HP.out] at hsq
   have HSQ := Lib.hid hsq
   have hk1 : 63 - (k + 1) = 62 - k := by omega
   have HT : Hid (E / 2 ^ (63 - (k + 1)) = t) := Lib.hid (by rw [hk1, ht])
   have HA := Lib.hid ha
   clear hst hsq ht hk1 ha
   by_cases hb1 : bt = 1
   ·
    have T1 : ((bt : Int) == 1) = true := by rw [beq_iff_eq]; omega
    have HB1 := Lib.hid hb1
    clear hb1 hbt
    go_wp2_with fail
    refine (mul_any p p _ (by omega) (by omega)).mono ?_
    rintro e w1 ⟨rfl, n1, rfl⟩
    have hm := mulN_lt p p (show 0 < gP by decide)
    have HM : Hid (mulN p p gP = p * p % gP) := Lib.hid (by unfold mulN; rw [resN_of (show p < gP from hpb)])
    obtain ⟨m, hmm⟩ : ∃ m, m = mulN p p gP := ⟨_, rfl⟩
    have hmb : m < 2305843009213691579 := by rw [hmm]; exact hm
    rw [← hmm] at HM ⊢
    clear hm hmm
    go_wp2_with fail
    refine (mul_any m a _ (by omega) HA.out).mono ?_
    rintro e w1 ⟨rfl, n2, rfl⟩
    have HR : Hid (mulN m a gP = x ^ t % gP) := Lib.hid (by
     unfold mulN
     rw [resN_of (show m < gP from hmb), ← HX.out, HSQ.out, HM.out, if_pos HB1.out])
    obtain ⟨z, hz⟩ : ∃ z, z = x ^ t % gP := ⟨_, rfl⟩
    have HZ := Lib.hid hz
    rw [HR.out, ← hz]
    clear hz
    go_wp2_with fail
    go_roundw
    case rel => exact ⟨k + 1, n + n1 + n2, by omega, by go_num, by rw [HT.out, ← HZ.out], by simp [World.drewN, Nat.add_assoc]⟩
    case measure => simp [intOf]; omega
   ·
    have T1 : ((bt : Int) == 1) = false := by rw [beq_eq_false_iff_ne]; omega
    have HB1 := Lib.hid hb1
    clear hb1 hbt
    go_wp2_with fail
    refine (mul_any p p _ (by omega) (by omega)).mono ?_
    rintro e w1 ⟨rfl, n1, rfl⟩
    have HR : Hid (mulN p p gP = x ^ t % gP) := Lib.hid (by
     unfold mulN
     rw [resN_of (show p < gP from hpb), HSQ.out, if_neg HB1.out, Nat.mul_one, Nat.mod_mod])
    obtain ⟨z, hz⟩ : ∃ z, z = x ^ t % gP := ⟨_, rfl⟩
    have HZ := Lib.hid hz
    rw [HR.out, ← hz]
    clear hz
    go_wp2_with fail
    go_roundw
    case rel => exact ⟨k + 1, n + n1, by omega, by go_num, by rw [HT.out, ← HZ.out], by simp [World.drewN]⟩
    case measure => simp [intOf]; omega
  ·
   obtain rfl : k = 63 := by omega
   have HR : Hid (p = x ^ E % gP) := Lib.hid (by rw [HP.out]; simp)
   go_wp2_with fail
   go_ret
   exact ⟨by rw [← HR.out]; rfl, n, rfl⟩
theorem exp_any (a e0 : Int) (w : World) (ha : -9223372036854775808 ≤ a ∧ a ≤ 9223372036854775807) (he : 0 ≤ e0 ∧ e0 ≤ 9223372036854775807) :
 Calls Tryz.prog 115 #[.int .i64 a, .int .i64 e0] w fun e w' => e = .returned (.int .i64 (resN a gP ^ e0.toNat % gP : Nat)) ∧ ∃ n, w' = w.drewN n := by
 obtain ⟨E, rfl⟩ : ∃ E : Nat, e0 = E := ⟨e0.toNat, by omega⟩
 rw [Int.toNat_natCast]
 exact exp_pos a E w ha (by omega)
end Go.Proofs.YtjbjpkhibcnenaaGreatDoor
/- group.In, Inv, AddQ. -/
namespace Go.Proofs.YtjbjpkhibcnenaaGreatDoor
set_option maxRecDepth 100000
set_option maxHeartbeats 2000000
open Go.RowKit
def InG (y : Int) : Prop := 1 ≤ y ∧ y < 2305843009213691579 ∧ y.toNat ^ gQ % gP = 1
instance (y : Int) : Decidable (InG y) := by
 unfold InG
 exact @instDecidableAnd _ _ _ (@instDecidableAnd _ _ _ (Nat.decEq _ _))
theorem resN_in {y : Int} (h1 : 1 ≤ y) (h2 : y < 2305843009213691579) : resN y gP = y.toNat := by
 obtain ⟨n, rfl⟩ : ∃ n : Nat, y = n := ⟨y.toNat, by omega⟩
 rw [Int.toNat_natCast]
 exact resN_of (show n < 2305843009213691579 by omega)
theorem in_any (y : Int) (w : World) (hy : -9223372036854775808 ≤ y ∧ y ≤ 9223372036854775807) :
 ∃ b : Bool, (b = true ↔ InG y) ∧ Calls Tryz.prog 123 #[.int .i64 y] w fun e w' => e = .returned (.bool b) ∧ ∃ n, w' = w.drewN n := by
 by_cases h1 : 1 ≤ y
 ·
  by_cases h2 : y < 2305843009213691579
  ·
   obtain ⟨z, hz⟩ : ∃ z, z = resN y gP ^ (1152921504606845789 : Int).toNat % gP := ⟨_, rfl⟩
   have hz2 : z = y.toNat ^ gQ % gP := by rw [hz, resN_in h1 h2]; rfl
   have HZ := Lib.hid hz
   have HY := Lib.hid hy
   clear hz hy
   have t1 : decide (1 ≤ y) = true := decide_eq_true h1
   have t2 : decide (y < 2305843009213691579) = true := decide_eq_true h2
   by_cases h3 : z = 1
   ·
    refine ⟨true, ⟨fun _ => ⟨h1, h2, by rw [← hz2]; exact h3⟩, fun _ => rfl⟩, ?_⟩
    have H3 := Lib.hid h3
    have t3 : ((z : Int) == 1) = true := by rw [beq_iff_eq]; omega
    clear h1 h2 h3 hz2
    go_enter Tryz.func123, Tryz.ntmps123
    go_wp2_with fail
    refine (exp_any y 1152921504606845789 _ HY.out (by decide)).mono ?_
    rintro e w1 ⟨rfl, n, rfl⟩
    rw [← HZ.out]
    go_wp2_with fail
    go_ret
    exact ⟨rfl, n, rfl⟩
   ·
    refine ⟨false, ⟨(fun h => by cases h), fun h => absurd (hz2.trans h.2.2) h3⟩, ?_⟩
    have t3 : ((z : Int) == 1) = false := by rw [beq_eq_false_iff_ne]; omega
    clear h1 h2 h3 hz2
    go_enter Tryz.func123, Tryz.ntmps123
    go_wp2_with fail
    refine (exp_any y 1152921504606845789 _ HY.out (by decide)).mono ?_
    rintro e w1 ⟨rfl, n, rfl⟩
    rw [← HZ.out]
    go_wp2_with fail
    go_ret
    exact ⟨rfl, n, rfl⟩
  ·
   refine ⟨false, ⟨(fun h => by cases h), fun h => absurd h.2.1 h2⟩, ?_⟩
   have t1 : decide (1 ≤ y) = true := decide_eq_true h1
   have t2 : decide (y < 2305843009213691579) = false := decide_eq_false h2
   clear h1 h2
   go_enter Tryz.func123, Tryz.ntmps123
   go_wp2_with fail
   go_ret
   exact ⟨rfl, 0, rfl⟩
 ·
  refine ⟨false, ⟨(fun h => by cases h), fun h => absurd h.1 h1⟩, ?_⟩
  have t1 : decide (1 ≤ y) = false := decide_eq_false h1
  clear h1
  go_enter Tryz.func123, Tryz.ntmps123
  go_wp2_with fail
  go_ret
  exact ⟨rfl, 0, rfl⟩
theorem addQ_any (a b : Int) (w : World) (ha : -9223372036854775808 ≤ a ∧ a ≤ 9223372036854775807) (hb : -9223372036854775808 ≤ b ∧ b ≤ 9223372036854775807) :
 Calls Tryz.prog 116 #[.int .i64 a, .int .i64 b] w fun e w' => e = .returned (.int .i64 ((resN a gQ + resN b gQ) % gQ : Nat)) ∧ w' = w := by
 obtain ⟨x, hx⟩ : ∃ x, x = resN a gQ := ⟨_, rfl⟩
 obtain ⟨y, hy⟩ : ∃ y, y = resN b gQ := ⟨_, rfl⟩
 have hxm : x < 1152921504606845789 := by rw [hx]; exact resN_lt a (show 0 < gQ by decide)
 have hym : y < 1152921504606845789 := by rw [hy]; exact resN_lt b (show 0 < gQ by decide)
 obtain ⟨z, hz⟩ : ∃ z, z = (x + y) % gQ := ⟨_, rfl⟩
 have FZ : ((x : Int) + (y : Int)) % 1152921504606845789 = (z : Int) := by rw [hz]; exact (Int.natCast_emod (x + y) gQ).symm
 have HX := Lib.hid hx
 have HY := Lib.hid hy
 have HZ := Lib.hid hz
 have HA := Lib.hid ha
 have HB := Lib.hid hb
 rw [← hx, ← hy, ← hz]
 clear hx hy hz ha hb
 go_enter Tryz.func116, Tryz.ntmps116
 go_wp2_with fail
 refine (residue_any a gQ _ HA.out (by decide) (by decide)).mono ?_
 rintro e w1 ⟨rfl, rfl⟩
 rw [← HX.out]
 go_wp2_with fail
 refine (residue_any b gQ _ HB.out (by decide) (by decide)).mono ?_
 rintro e w1 ⟨rfl, rfl⟩
 rw [← HY.out]
 go_wp2_with fail
 go_ret
 exact ⟨congrArg (fun v => Ending.returned (Value.int .i64 v)) FZ, rfl⟩
end Go.Proofs.YtjbjpkhibcnenaaGreatDoor
/- Small lemmas on worlds, rows of 32-bit words and integers that the other texts of this claim use. No condition beyond what each lemma states. -/
namespace Go.Proofs.YtjbjpkhibcnenaaGreatDoor
open Go.RowKit
theorem below_drewN {B n : Nat} {w w' : World} (h : Below B w w') : Below B w (w'.drewN n) := h.trans ⟨rfl, rfl, rfl, Nat.le_refl _, fun _ _ => rfl⟩
theorem below_setRow {B g : Nat} {w w' : World} (h : Below B w w') (hg : B ≤ g) (cs : Array Value) : Below B w (w'.setRow g cs) :=
 h.trans ⟨rfl, rfl, rfl, by simp, fun k hk => setRow_other _ _ _ _ (by omega)⟩
def u32v (vs : List Int) : Array Value := (vs.map (Value.int .u32)).toArray
theorem u32v_get (vs : List Int) (i : Nat) (h : i < vs.length) : (u32v vs)[i]? = some (.int .u32 (vs[i]?.getD 0)) := by
 unfold u32v
 simp [h]
theorem u32v_size (vs : List Int) : (u32v vs).size = vs.length := by simp [u32v]
theorem u32v_set (vs : List Int) (i : Nat) (z : Int) : (u32v vs).setIfInBounds i (.int .u32 z) = u32v (vs.set i z) := by
 unfold u32v
 simp [List.map_set]
theorem u32v_one (vs : List Int) : (u32v vs).all (·.oneCell') = true := by
 simp [u32v, Value.oneCell']
/-- all members are 32-bit words -/
def W32 (vs : List Int) : Prop := ∀ i : Nat, 0 ≤ vs[i]?.getD 0 ∧ vs[i]?.getD 0 ≤ 4294967295
theorem W32.set {vs : List Int} (h : W32 vs) (i : Nat) {z : Int} (h0 : 0 ≤ z) (h1 : z ≤ 4294967295) : W32 (vs.set i z) := by
 intro j
 rw [List.getElem?_set]
 split
 ·
  split
  · exact ⟨h0, h1⟩
  · exact ⟨by simp, by simp⟩
 · exact h j
theorem W32.nil : W32 [] := fun i => by simp
theorem W32.cons {vs : List Int} {z : Int} (h0 : 0 ≤ z) (h1 : z ≤ 4294967295) (h : W32 vs) : W32 (z :: vs) := by
 intro j
 cases j with
 | zero => exact ⟨h0, h1⟩
 | succ j => simpa using h j
theorem W32.replicate (n : Nat) : W32 (List.replicate n 0) := by
 intro j
 rw [List.getElem?_replicate]
 split <;> simp
theorem rangeAt_below {B b o : Nat} {cs : List Value} {w w' : World} (h : w.rangeAt b o cs) (hb : Below B w w') (hB : b < B) : w'.rangeAt b o cs := fun j v hv =>
 (hb.cell (p := ⟨b, o + j, none⟩) hB).trans (h j v hv)
theorem blk_below {B g : Nat} {x : Option Obj} {w w' : World} (h : w.heap[g]? = x) (hb : Below B w w') (hB : g < B) : w'.heap[g]? = x := (hb.block g hB).trans h
theorem blk_lt {g : Nat} {o : Obj} {w : World} (h : w.heap[g]? = some o) : g < w.heap.size := by
 rcases Nat.lt_or_ge g w.heap.size with hlt | hge
 · exact hlt
 · rw [Array.getElem?_eq_none hge] at h; cases h
/-- bytes as the cells of a slice -/
def bytesV (bs : List UInt8) : List Value := bs.map fun b => Value.int .u8 (b.toNat : Int)
theorem bytesV_append (a b : List UInt8) : bytesV (a ++ b) = bytesV a ++ bytesV b := List.map_append
theorem bytesV_length (a : List UInt8) : (bytesV a).length = a.length := List.length_map _
theorem bytesV_one (a : List UInt8) : ∀ u ∈ bytesV a, u.oneCell' = true := by
 intro u hu
 simp only [bytesV, List.mem_map] at hu
 obtain ⟨b, _, rfl⟩ := hu
 rfl
/-- the cells of a block that was just made -/
theorem cells_new (w : World) (C : Array Value) (t : TypeId) : ∀ (j : Nat) (u : Value), C.toList[j]? = some u → (w.alloc (.cells C t)).cell? ((⟨w.heap.size, 0, none⟩ : Addr).add j) = some u := fun j u h => by
 rw [Addr.add_mid, Nat.zero_add, cell_of_row _ _ _ _ _ _ (heap_alloc_new w _)]
 simpa using h
/-- a slice of bytes of the call's own, turned into a string -/
theorem wpList_string_own {P : Program} {w : World} {ops : Array Oper} {rest : List Oper} {o : Oper} {a : Act} {Q : Exit → Act → World → Prop} (hgd : o.guard = none) (T S e : TypeId) (x : Operand) (ho : o.op = .convert T S x)
 (hT : P.underlying T = some (.slice e)) (he : P.underlying e = some (.int .u8)) (hS : P.underlying S = some .string) (v : Value) (hx : a.eval x = v) (base n : Nat) (bs : List UInt8) (hown : w.ownsRow base e 1 v n (bytesV bs))
 (h : wpList P ops Q rest (a.put o.dst (.string ⟨bs.toArray⟩)) w) : wpList P ops Q (o :: rest) a w := by
 have hrun : (convert T S v).run P w = .ok (.string ⟨bs.toArray⟩) w := by
  have hlen : bs.length = n := by have := hown.1; rw [bytesV_length] at this; omega
  rcases hown.2 with ⟨rfl, hn⟩ | ⟨g, cap, cur, rfl, _, hh, hnc, _, hcs, htk⟩
  ·
   have : bs = [] := List.eq_nil_of_length_eq_zero (by omega)
   subst this
   exact run_convert_bytes_nil w T e hT he 0 0 S hS
  ·
   subst hlen
   refine run_convert_bytes_back w T S e _ cap bs hT he hS fun j hj => ?_
   rw [Addr.add_mid, Nat.zero_add, cell_of_row _ _ _ _ _ _ hh]
   have h1 : (cur.toList.take (bs.length * 1))[j]? = (bytesV bs)[j]? := by rw [htk]
   rw [List.getElem?_take] at h1
   simpa [hj, bytesV] using h1
 refine wpList_plain hgd fun K hK => ?_
 unfold Oper.wp execOp
 simp only [ho, hx, hrun, Result.andThen, Sem.run_bind, Sem.run_pure]
 exact hK _ _ h
theorem heap_alloc4 (w : World) (A B C D : Obj) : ((((w.alloc A).alloc B).alloc C).alloc D).heap[w.heap.size]? = some A ∧ ((((w.alloc A).alloc B).alloc C).alloc D).heap[w.heap.size + 1]? = some B ∧
 ((((w.alloc A).alloc B).alloc C).alloc D).heap[w.heap.size + 1 + 1]? = some C ∧ ((((w.alloc A).alloc B).alloc C).alloc D).heap[w.heap.size + 1 + 1 + 1]? = some D := by
 show ((((w.heap.push A).push B).push C).push D)[_]? = _ ∧ ((((w.heap.push A).push B).push C).push D)[_]? = _ ∧ ((((w.heap.push A).push B).push C).push D)[_]? = _ ∧ ((((w.heap.push A).push B).push C).push D)[_]? = _
 simp only [Array.getElem?_push, Array.size_push]
 refine ⟨?_, ?_, ?_, ?_⟩
 · rw [if_neg (by omega), if_neg (by omega), if_neg (by omega), if_pos trivial]
 · rw [if_neg (by omega), if_neg (by omega), if_pos trivial]
 · rw [if_neg (by omega), if_pos trivial]
 · rw [if_pos trivial]
theorem wpStill_load_row {P : Program} {ops : Array Oper} {w : World} {Q : Act → Prop} {a : Act} {o : Oper} {rest : List Oper} (hgd : o.guard = none) (ty : TypeId) (x : Operand) (ho : o.op = .load ty x)
 (g : Nat) (hx : a.eval x = .pointer (some ⟨g, 0, none⟩)) (t : TypeId) (cs : Array Value) (fr : Nat × Nat) (d : TypeDesc) (hg : w.heap[g]? = some (.cells cs t fr))
 (hu : P.underlying ty = some d) (hd : (match d with | .struct _ | .array _ _ => true | _ => false) = true) (hi : (P.info? ty).map (·.size) = some cs.size)
 (h : wpStill P ops w Q rest (a.put o.dst (.agg cs))) : wpStill P ops w Q (o :: rest) a := by
 refine wpStill_step (fun K hK => ?_)
 rw [if_pos (by simp [Region.wanted, hgd])]
 unfold Oper.still execOp
 simp only [ho, hx, Instr.loadAt, Instr.sureAddr, Sem.run_bind, Sem.run_pure, Result.andThen_ok, run_loadVar_row w g t ty cs fr d hg hu hd hi]
 exact ⟨rfl, hK _ h⟩
theorem tm {P : Program} {ops : Array Oper} {Q : Exit → Act → World → Prop} {S : World → Prop} {fuel : Nat} {listed l' : Array Bool} {a a' : Act} {w : World} {oi : Oper} {v : Value} (i : Nat) (h : wpAnyH P .any ops Q S fuel l' a' w) (hi : ops[i]? = some oi := by (simp only [List.getElem?_toArray, List.getElem?_cons_succ, List.getElem?_cons_zero]; exact rfl)) (hc : (Region.noSelect ops && Region.free .any ops listed i && (Region.ready .any ops listed).contains i) = true := by kernel_rfl)
 (hQ : ∀ c a w, Q (.panic c) (a.put oi.dst v) w → Q (.panic c) a w := by exact fun _ _ _ h => h) (hw : Region.wanted oi (yielded ops a.tmps) = true := by rfl) (hx : ∀ w, S w → (execOp a.eval oi).run P w = .ok (.value v) w := by (intro w hSw; (try dsimp only at hSw); go_simp; try with_reducible rfl)) (hS : S w := by assumption)
 (ha : a.put oi.dst v = a' := by (try simp only [Act.put, List.setIfInBounds_toArray, List.set_cons_zero, List.set_cons_succ]); first | done | exact rfl) (hl : listed.setIfInBounds i true = l' := by (try simp only [List.setIfInBounds_toArray, List.set_cons_zero, List.set_cons_succ]); first | done | exact rfl) : wpAnyH P .any ops Q S (fuel + 1) listed a w := by
 subst ha hl
 simp only [Bool.and_eq_true] at hc
 exact wpAnyH_take hi hc.1.1 hc.1.2 hc.2 hQ (Or.inl ⟨hw, hx⟩) hS h
end Go.Proofs.YtjbjpkhibcnenaaGreatDoor
/- The function G of BLAKE2s: digest.right and digest.mix return what the plain functions rotr and mixL say. Conditions: words of 32 bits, places below 16 that differ. -/
namespace Go.Proofs.YtjbjpkhibcnenaaGreatDoor
set_option maxHeartbeats 400000
open Go.RowKit
/-- rotation of a 32-bit word to the right, on integers -/
def rotr (x n : Int) : Int := bits BinOp.or IntKind.u32 (x / 2 ^ n.toNat) (x * 2 ^ (32 - n).toNat % 4294967296)
theorem rotr_b (x n : Int) : 0 ≤ rotr x n ∧ rotr x n ≤ 4294967295 := ⟨bits_lo_u32 _ _ _, bits_hi_u32 _ _ _⟩
theorem right_any (x n : Int) (w : World) (_h0 : 0 ≤ x) (_h1 : x ≤ 4294967295) (h2 : 1 ≤ n) (h3 : n ≤ 31) :
 Calls Tryz.prog 186 #[.int .u32 x, .int .i64 n] w fun e w' => e = .returned (.int .u32 (rotr x n)) ∧ ∃ k, w' = w.drewN k := by
 go_enter Tryz.func186, Tryz.ntmps186
 go_wp2
 go_quiet (fail)
 go_wp2
 go_ret
 exact ⟨rfl, _, rfl⟩
def mixF (va vb vc vd x y : Int) : Int × Int × Int × Int :=
 let r1 := rotr (bits BinOp.xor IntKind.u32 vd ((va + (vb + x)) % 4294967296)) 16
 let r2 := rotr (bits BinOp.xor IntKind.u32 vb ((vc + r1) % 4294967296)) 12
 let r3 := rotr (bits BinOp.xor IntKind.u32 r1 ((va + (vb + x) + (r2 + y)) % 4294967296)) 8
 let r4 := rotr (bits BinOp.xor IntKind.u32 r2 ((vc + r1 + r3) % 4294967296)) 7
 ((va + (vb + x) + (r2 + y)) % 4294967296, r4, (vc + r1 + r3) % 4294967296, r3)
def mixL (vs : List Int) (a b c d : Nat) (x y : Int) : List Int :=
 let r := mixF (vs[a]?.getD 0) (vs[b]?.getD 0) (vs[c]?.getD 0) (vs[d]?.getD 0) x y
 (((vs.set a r.1).set b r.2.1).set c r.2.2.1).set d r.2.2.2
theorem undA16 : Tryz.prog.underlying 200 = some (.array 16 148) := by kernel_rfl
theorem infoA16 {vs : List Int} (h : vs.length = 16) : (Tryz.prog.info? 200).map (·.size) = some (u32v vs).size := by
 rw [u32v_size, h]
 kernel_rfl
theorem mix_any (vs : List Int) (a b c d x y : Int) (w : World) (hl : vs.length = 16) (hb : W32 vs)
 (ha0 : 0 ≤ a) (ha : a < 16) (hb0 : 0 ≤ b) (hb1 : b < 16) (hc0 : 0 ≤ c) (hc : c < 16) (hd0 : 0 ≤ d) (hd : d < 16)
 (hab : ¬ a.toNat = b.toNat) (hac : ¬ a.toNat = c.toNat) (had : ¬ a.toNat = d.toNat) (hbc : ¬ b.toNat = c.toNat) (hbd : ¬ b.toNat = d.toNat) (hcd : ¬ c.toNat = d.toNat)
 (_hx0 : 0 ≤ x) (_hx1 : x ≤ 4294967295) (_hy0 : 0 ≤ y) (_hy1 : y ≤ 4294967295)  :
 Calls Tryz.prog 179 #[.agg (u32v vs), .int .i64 a, .int .i64 b, .int .i64 c, .int .i64 d, .int .u32 x, .int .u32 y] w fun e w' =>
  e = .returned (.agg (u32v (mixL vs a.toNat b.toNat c.toNat d.toNat x y))) ∧ Below w.heap.size w w' := by
 go_enter Tryz.func179, Tryz.ntmps179
 go_wp2
 generalize hZ : (#[Value.int IntKind.u32 0, _, _, _, _, _, _, _, _, _, _, _, _, _, _, _] : Array Value) = Z
 have HZ : Hid (Z.size = 16) := by rw [← hZ]; rfl
 clear hZ
 generalize hW : (w.alloc (Obj.cells (u32v vs) 200)).alloc _ = W
 have hz : W.heap.size = w.heap.size + 2 := by rw [← hW]; simp
 have hB : Below w.heap.size w W := by rw [← hW]; exact ((Below.refl _ _).alloc (Nat.le_refl _) _).alloc (by simp) _
 have hH : W.heap[w.heap.size]? = some (.cells (u32v vs) 200 (0, 0)) := by rw [← hW]; exact heap_alloc2_old _ _ _
 have hH2 : W.heap[w.heap.size + 1]? = some (.cells Z 200 (0, 0)) := by rw [← hW]; exact heap_alloc2_new _ _ _
 have hcell : ∀ i : Nat, i < 16 → W.cell? ⟨w.heap.size, i, none⟩ = some (.int .u32 (vs[i]?.getD 0)) := fun i hi => by
  rw [cell_of_row _ _ _ _ _ _ hH]; exact u32v_get _ _ (by omega)
 have hfr : ∀ i : Nat, W.frozen? ⟨w.heap.size, i, none⟩ = false := fun i => frozen_of_row _ _ _ _ _ hH
 clear hW
 have HH := Lib.hid hH
 have HH2 := Lib.hid hH2
 have Hl := Lib.hid hl
 have Hz := Lib.hid hz
 clear hH hH2 hl hz
 have hba := hb a.toNat
 have hbb := hb b.toNat
 have hbc' := hb c.toNat
 have hbd' := hb d.toNat
 have hca := hcell a.toNat (by omega)
 have hcb := hcell b.toNat (by omega)
 have hcc := hcell c.toNat (by omega)
 have hcd' := hcell d.toNat (by omega)
 have hfa := hfr a.toNat
 have hfb := hfr b.toNat
 have hfc := hfr c.toNat
 have hfd := hfr d.toNat
 clear hcell hb hfr
 have hM : Hid (mixL vs a.toNat b.toNat c.toNat d.toNat x y = (((vs.set a.toNat (mixF (vs[a.toNat]?.getD 0) (vs[b.toNat]?.getD 0) (vs[c.toNat]?.getD 0) (vs[d.toNat]?.getD 0) x y).1).set b.toNat (mixF (vs[a.toNat]?.getD 0) (vs[b.toNat]?.getD 0) (vs[c.toNat]?.getD 0) (vs[d.toNat]?.getD 0) x y).2.1).set c.toNat (mixF (vs[a.toNat]?.getD 0) (vs[b.toNat]?.getD 0) (vs[c.toNat]?.getD 0) (vs[d.toNat]?.getD 0) x y).2.2.1).set d.toNat (mixF (vs[a.toNat]?.getD 0) (vs[b.toNat]?.getD 0) (vs[c.toNat]?.getD 0) (vs[d.toNat]?.getD 0) x y).2.2.2) := rfl
 generalize vs[a.toNat]?.getD 0 = va at *
 generalize vs[b.toNat]?.getD 0 = vb at *
 generalize vs[c.toNat]?.getD 0 = vc at *
 generalize vs[d.toNat]?.getD 0 = vd at *
 obtain ⟨p1, p2⟩ := hba
 obtain ⟨p3, p4⟩ := hbb
 obtain ⟨p5, p6⟩ := hbc'
 obtain ⟨p7, p8⟩ := hbd'
 go_quiet (fail)
 go_wp2_with fail
 refine (right_any _ _ _ (bits_lo_u32 _ _ _) (bits_hi_u32 _ _ _) (by omega) (by omega)).mono ?_
 rintro e w' ⟨rfl, k1, rfl⟩
 have q1 := rotr_b (bits BinOp.xor IntKind.u32 vd ((va + (vb + x)) % 4294967296)) 16
 generalize e1 : rotr (bits BinOp.xor IntKind.u32 vd ((va + (vb + x)) % 4294967296)) 16 = r1 at *
 obtain ⟨q1, q2⟩ := q1
 have E1 := Lib.hid e1
 clear e1
 go_wp2_with fail
 refine (right_any _ _ _ (bits_lo_u32 _ _ _) (bits_hi_u32 _ _ _) (by omega) (by omega)).mono ?_
 rintro e w' ⟨rfl, k2, rfl⟩
 have q2 := rotr_b (bits BinOp.xor IntKind.u32 vb ((vc + r1) % 4294967296)) 12
 generalize e2 : rotr (bits BinOp.xor IntKind.u32 vb ((vc + r1) % 4294967296)) 12 = r2 at *
 obtain ⟨q2, q2'⟩ := q2
 have E2 := Lib.hid e2
 clear e2
 go_wp2_with fail
 refine (right_any _ _ _ (bits_lo_u32 _ _ _) (bits_hi_u32 _ _ _) (by omega) (by omega)).mono ?_
 rintro e w' ⟨rfl, k3, rfl⟩
 have q3 := rotr_b (bits BinOp.xor IntKind.u32 r1 ((va + (vb + x) + (r2 + y)) % 4294967296)) 8
 generalize e3 : rotr (bits BinOp.xor IntKind.u32 r1 ((va + (vb + x) + (r2 + y)) % 4294967296)) 8 = r3 at *
 obtain ⟨q3, q3'⟩ := q3
 have E3 := Lib.hid e3
 clear e3
 go_wp2_with fail
 refine (right_any _ _ _ (bits_lo_u32 _ _ _) (bits_hi_u32 _ _ _) (by omega) (by omega)).mono ?_
 rintro e w' ⟨rfl, k4, rfl⟩
 have q4 := rotr_b (bits BinOp.xor IntKind.u32 r2 ((vc + r1 + r3) % 4294967296)) 7
 generalize e4 : rotr (bits BinOp.xor IntKind.u32 r2 ((vc + r1 + r3) % 4294967296)) 7 = r4 at *
 obtain ⟨q4, q4'⟩ := q4
 have E4 := Lib.hid e4
 clear e4
 go_upto_region 11 with (fail)
 generalize hW5 : ((((W.drewN (nq + k1 + k2 + k3 + k4)).setCell _ _).setCell _ _).setCell _ _).setCell _ _ = W5
 have hz := Hz.out
 have hH : (W.drewN (nq + k1 + k2 + k3 + k4)).heap[w.heap.size]? = some (.cells (u32v vs) 200 (0, 0)) := HH.out
 have hH5 : W5.heap[w.heap.size]? = some (.cells (u32v (mixL vs a.toNat b.toNat c.toNat d.toNat x y)) 200 (0, 0)) := by
  rw [← hW5, heap_setCell_same _ _ _ _ _ _ (heap_setCell_same _ _ _ _ _ _ (heap_setCell_same _ _ _ _ _ _ (heap_setCell_same _ _ _ _ _ _ hH)))]
  rw [hM.out]
  simp only [u32v_set, mixF, E1.out, E2.out, E3.out, E4.out]
 have hO5 : W5.heap[w.heap.size + 1]? = some (.cells Z 200 (0, 0)) := by
  rw [← hW5]
  rw [heap_setCell_other _ _ _ _ (Nat.succ_ne_self _), heap_setCell_other _ _ _ _ (Nat.succ_ne_self _), heap_setCell_other _ _ _ _ (Nat.succ_ne_self _), heap_setCell_other _ _ _ _ (Nat.succ_ne_self _)]
  exact HH2.out
 have hB5 : Below w.heap.size w W5 := by
  rw [← hW5]
  have h0 : Below w.heap.size w (W.drewN (nq + k1 + k2 + k3 + k4)) := hB.trans ⟨rfl, rfl, rfl, Nat.le_refl _, fun _ _ => rfl⟩
  exact (((h0.setCell (Nat.le_refl _) _).setCell (Nat.le_refl _) _).setCell (Nat.le_refl _) _).setCell (Nat.le_refl _) _
 have hsz : (u32v (mixL vs a.toNat b.toNat c.toNat d.toNat x y)).size = 16 := by
  rw [u32v_size, hM.out]; simp [Hl.out]
 clear hW5 hH hz
 have HB5 := Lib.hid hB5
 clear hB5
 refine wp_region_lit ?_
 refine wpList_load_row rfl 200 _ rfl _ rfl 200 _ _ _ hH5 undA16 rfl (by rw [hsz]; kernel_rfl) ?_
 refine wpList_store_row rfl 200 _ _ rfl _ _ rfl rfl 200 _ hO5 (by rw [hsz]; kernel_rfl) (by rw [hsz]; exact HZ.out) (u32v_one _) ?_
 go_wp2
 refine bodyPost_ret (v := .agg (u32v (mixL vs a.toNat b.toNat c.toNat d.toNat x y))) ?_ rfl ⟨rfl, ?_⟩
 · exact results_cell_row rfl _ _ _ 200 _ (0, 0) _ rfl (setRow_heap _ _ _ _ _ _ hO5) undA16 rfl (by rw [hsz]; kernel_rfl)
 · exact HB5.out.trans ⟨rfl, rfl, rfl, by simp, fun k hk => setRow_other _ _ _ _ (by omega)⟩
end Go.Proofs.YtjbjpkhibcnenaaGreatDoor
