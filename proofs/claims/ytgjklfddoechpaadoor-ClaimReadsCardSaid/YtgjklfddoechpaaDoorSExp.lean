/- group.Exp is the power. -/
import Derived.Test.YtgjklfddoechpaaDoorSGroup
import Derived.Outline
namespace Go.Proofs.YtgjklfddoechpaaDoor
open Go.RowKit
/-- the exponent that counts -/
def eN (e : Int) : Nat := if e < 0 then resN e gQ else e.toNat
def expN (a e : Int) : Nat := resN a gP ^ eN e % gP
theorem eN_lt {e : Int} (h : e ≤ 9223372036854775807) : eN e < 9223372036854775808 := by
  unfold eN
  split
  · have := resN_lt e (show 0 < gQ by decide)
    have h2 : gQ = 1152921504606845789 := rfl
    omega
  · omega
theorem half_step (E k : Nat) (hk : k < 63) : E / 2 ^ (62 - k) = 2 * (E / 2 ^ (63 - k)) + E / 2 ^ (62 - k) % 2 := by
  have e : 2 ^ (63 - k) = 2 ^ (62 - k) * 2 := by rw [← Nat.pow_succ]; congr 1; omega
  rw [e, ← Nat.div_div_eq_div_mul]
  omega
theorem sq_step (x P t b : Nat) (hb : b = t % 2) : x ^ t % P = (x ^ (t / 2) % P) * (x ^ (t / 2) % P) % P * (if b = 1 then x else 1) % P := by
  have e : x ^ t = x ^ (t / 2) * x ^ (t / 2) * (if b = 1 then x else 1) := by
    conv => lhs; rw [← Nat.div_add_mod t 2, Nat.pow_add, Nat.two_mul, Nat.pow_add, ← hb]
    have : b = 0 ∨ b = 1 := by omega
    rcases this with h | h <;> rw [h] <;> simp
  rw [e, Nat.mul_mod (x ^ (t / 2) * x ^ (t / 2)), Nat.mul_mod (x ^ (t / 2))]
  simp [Nat.mul_mod]
theorem and1 (t : Nat) (h : t < 9223372036854775808) : bits .and .i64 (t : Int) 1 = ((t % 2 : Nat) : Int) := by
  show IntKind.i64.wrap ((BitVec.ofInt 64 (t : Int) &&& BitVec.ofInt 64 ((1 : Nat) : Int)).toNat : Int) = _
  rw [BitVec.toNat_and, BitVec.ofInt_natCast, BitVec.ofInt_natCast, BitVec.toNat_ofNat, BitVec.toNat_ofNat, Nat.mod_eq_of_lt (show t < 2 ^ 64 by omega), Nat.mod_eq_of_lt (show 1 < 2 ^ 64 by decide), Nat.and_one_is_mod]
  exact IntWalk.i64_in _ (by omega)
set_option maxRecDepth 100000 in
set_option maxHeartbeats 4000000 in
/-- the loop, for an exponent that is not negative -/
theorem exp_pos (a : Int) (E : Nat) (w : World) (ha : -9223372036854775808 ≤ a ∧ a ≤ 9223372036854775807) (hE : E < 9223372036854775808) :
    Calls Tryd.prog 28 #[.int .i64 a, .int .i64 E] w fun e w' => e = .returned (.int .i64 (resN a gP ^ E % gP : Nat)) ∧ ∃ n, w' = w.drewN n := by
  obtain ⟨x, hx⟩ : ∃ x, x = resN a gP := ⟨_, rfl⟩
  have HX := Lib.hid hx
  rw [← hx]
  clear hx
  go_enter Tryd.func28, Tryd.ntmps28
  go_wp2_with fail
  go_loopw [5, 11] (fun pv iv wr => ∃ k n : Nat, k ≤ 63 ∧ iv = .int .i64 k ∧ pv = .int .i64 (x ^ (E / 2 ^ (63 - k)) % gP : Nat) ∧ wr = w.drewN n) (fun _ iv _ => 63 - (intOf iv).toNat)
  case atStart =>
    refine ⟨0, 0, by omega, rfl, ?_, rfl⟩
    rw [Nat.sub_zero, Nat.div_eq_of_lt (show E < 2 ^ 63 from hE), Nat.pow_zero]
    rfl
  case round =>
    obtain ⟨k, n, hk, rfl, rfl, rfl⟩ := hrel
    obtain ⟨p, hp⟩ : ∃ p, p = x ^ (E / 2 ^ (63 - k)) % gP := ⟨_, rfl⟩
    have hpb : p < 2305843009213691579 := by rw [hp]; exact lt_p _
    have HP := Lib.hid hp
    rw [← hp]
    clear hp
    by_cases hlt : k < 63
    · obtain ⟨t, ht⟩ : ∃ t, t = E / 2 ^ (62 - k) := ⟨_, rfl⟩
      have htE : t < 9223372036854775808 := by rw [ht]; exact Nat.lt_of_le_of_lt (Nat.div_le_self _ _) hE
      obtain ⟨bt, hbt⟩ : ∃ bt, bt = t % 2 := ⟨_, rfl⟩
      have FT : (E : Int) / 2 ^ (62 - k) = (t : Int) := by rw [ht, Int.natCast_ediv, Int.natCast_pow]; rfl
      have FB : bits .and .i64 (t : Int) 1 = (bt : Int) := by rw [hbt]; exact and1 t htE
      have hst := half_step E k hlt
      rw [← ht] at hst
      have hsq := sq_step x gP t bt hbt
      rw [show t / 2 = E / 2 ^ (63 - k) by omega, ← HP.out] at hsq
      have HSQ := Lib.hid hsq
      have hk1 : 63 - (k + 1) = 62 - k := by omega
      have HT : Hid (E / 2 ^ (63 - (k + 1)) = t) := Lib.hid (by rw [hk1, ht])
      have HA := Lib.hid ha
      clear hst hsq ht hk1 ha
      by_cases hb1 : bt = 1
      · have T1 : ((bt : Int) == 1) = true := by rw [beq_iff_eq]; omega
        have HB1 := Lib.hid hb1
        clear hb1 hbt
        go_wp2_with fail
        refine (mul_any p p _ (by omega) (by omega)).mono ?_
        rintro e w1 ⟨rfl, n1, rfl⟩
        have hm := mulN_lt p p (show 0 < gP by decide)
        have HM : Hid (mulN p p gP = p * p % gP) := Lib.hid (by unfold mulN; rw [resN_of (show p < gP from hpb)])
        obtain ⟨m, hmm⟩ : ∃ m, m = mulN p p gP := ⟨_, rfl⟩
        have hmb : m < 2305843009213691579 := by rw [hmm]; exact hm
        rw [← hmm] at HM ⊢
        clear hm hmm
        go_wp2_with fail
        refine (mul_any m a _ (by omega) HA.out).mono ?_
        rintro e w1 ⟨rfl, n2, rfl⟩
        have HR : Hid (mulN m a gP = x ^ t % gP) := Lib.hid (by
          unfold mulN
          rw [resN_of (show m < gP from hmb), ← HX.out, HSQ.out, HM.out, if_pos HB1.out])
        obtain ⟨z, hz⟩ : ∃ z, z = x ^ t % gP := ⟨_, rfl⟩
        have HZ := Lib.hid hz
        rw [HR.out, ← hz]
        clear hz
        go_wp2_with fail
        go_roundw
        case rel => exact ⟨k + 1, n + n1 + n2, by omega, by go_num, by rw [HT.out, ← HZ.out], by simp [World.drewN, Nat.add_assoc]⟩
        case measure => simp [intOf]; omega
      · have T1 : ((bt : Int) == 1) = false := by rw [beq_eq_false_iff_ne]; omega
        have HB1 := Lib.hid hb1
        clear hb1 hbt
        go_wp2_with fail
        refine (mul_any p p _ (by omega) (by omega)).mono ?_
        rintro e w1 ⟨rfl, n1, rfl⟩
        have HR : Hid (mulN p p gP = x ^ t % gP) := Lib.hid (by
          unfold mulN
          rw [resN_of (show p < gP from hpb), HSQ.out, if_neg HB1.out, Nat.mul_one, Nat.mod_mod])
        obtain ⟨z, hz⟩ : ∃ z, z = x ^ t % gP := ⟨_, rfl⟩
        have HZ := Lib.hid hz
        rw [HR.out, ← hz]
        clear hz
        go_wp2_with fail
        go_roundw
        case rel => exact ⟨k + 1, n + n1, by omega, by go_num, by rw [HT.out, ← HZ.out], by simp [World.drewN]⟩
        case measure => simp [intOf]; omega
    · obtain rfl : k = 63 := by omega
      have HR : Hid (p = x ^ E % gP) := Lib.hid (by rw [HP.out]; simp)
      go_wp2_with fail
      go_ret
      exact ⟨by rw [← HR.out]; rfl, n, rfl⟩
set_option maxRecDepth 100000 in
set_option maxHeartbeats 4000000 in
theorem exp_any (a e0 : Int) (w : World) (ha : -9223372036854775808 ≤ a ∧ a ≤ 9223372036854775807) (he : 0 ≤ e0 ∧ e0 ≤ 9223372036854775807) :
    Calls Tryd.prog 28 #[.int .i64 a, .int .i64 e0] w fun e w' => e = .returned (.int .i64 (resN a gP ^ e0.toNat % gP : Nat)) ∧ ∃ n, w' = w.drewN n := by
  obtain ⟨E, rfl⟩ : ∃ E : Nat, e0 = E := ⟨e0.toNat, by omega⟩
  rw [Int.toNat_natCast]
  exact exp_pos a E w ha (by omega)
end Go.Proofs.YtgjklfddoechpaaDoor
