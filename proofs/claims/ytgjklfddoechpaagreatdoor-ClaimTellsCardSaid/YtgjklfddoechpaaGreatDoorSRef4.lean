/- bourneref04: Mod, times, Mul, Exp, In, AddQ, MulQ. -/
import Derived.Test.YtgjklfddoechpaaGreatDoorSIn
import Derived.Outline
namespace Go.Proofs.YtgjklfddoechpaaGreatDoor
open Go.RowKit
set_option maxRecDepth 100000 in
set_option maxHeartbeats 1000000 in
theorem rmod_any (n : Int) (m : Nat) (w : World) (hn : -9223372036854775808 ≤ n ∧ n ≤ 9223372036854775807) (hm0 : 0 < m) (hm : m < 4611686018427387904) :
    Calls Tryz.prog 116 #[.int .i64 n, .int .i64 m] w fun e w' => e = .returned (.int .i64 (resN n m : Nat)) ∧ w' = w := by
  have t1 : ¬ (m : Int) = 0 := by omega
  have hr := resN_cast n hm0
  have hb := Int.emod_lt_of_pos n (show (0 : Int) < m by omega)
  have h0 := Int.emod_nonneg n (show (m : Int) ≠ 0 by omega)
  have HR := Lib.hid hr
  clear hr
  by_cases hneg : 0 ≤ n
  · have F1 : n % (m : Int) = (resN n m : Int) := HR.out.symm
    have F2 : ¬ ((resN n m : Int) < 0) := by omega
    go_enter Tryz.func116, Tryz.ntmps116
    go_wp2_with fail
    go_ret
    exact ⟨by first | rfl | rw [HR.out], rfl⟩
  · obtain ⟨k, hk⟩ : ∃ k : Nat, (k : Int) = (-n) % (m : Int) := ⟨((-n) % (m : Int)).toNat, by have := Int.emod_nonneg (-n) (show (m : Int) ≠ 0 by omega); omega⟩
    have hkm : (k : Int) < m := by rw [hk]; exact Int.emod_lt_of_pos _ (by omega)
    have F1 : n.tmod (m : Int) = -(k : Int) := by
      rw [hk, ← Int.tmod_eq_emod_of_nonneg (show 0 ≤ -n by omega), Int.neg_tmod, Int.neg_neg]
    have e1 : n = -(k : Int) + (m : Int) * (-((-n) / (m : Int))) := by
      have := Int.emod_add_mul_ediv (-n) (m : Int)
      rw [← hk] at this
      rw [Int.mul_neg]
      omega
    have e2 : n % (m : Int) = (-(k : Int)) % (m : Int) := by
      conv => lhs; rw [e1]
      exact Int.add_mul_emod_self_left _ _ _
    by_cases h0k : k = 0
    · have HE : Hid ((resN n m : Int) = 0) := Lib.hid (by rw [HR.out, e2, h0k]; simp)
      have F3 : ¬ (-(k : Int) < 0) := by omega
      clear hk e1 e2
      go_enter Tryz.func116, Tryz.ntmps116
      go_wp2_with fail
      go_ret
      exact ⟨by rw [HE.out]; first | rfl | (congr 2; omega), rfl⟩
    · have HE : Hid ((resN n m : Int) = -(k : Int) + m) := Lib.hid (by
        rw [HR.out, e2, ← Int.add_emod_right, Int.emod_eq_of_lt (by omega) (by omega)])
      have F3 : -(k : Int) < 0 := by omega
      clear hk e1 e2
      go_enter Tryz.func116, Tryz.ntmps116
      go_wp2_with fail
      go_ret
      exact ⟨by rw [HE.out]; first | rfl | (congr 2; omega), rfl⟩
/-- the product of two residues -/

theorem times_step {x a b m T : Nat} (hT : (x + a * b) % m = T) (_hx : x < m) (_ha : a < m) :
    ((if b % 2 = 1 then (if m ≤ x + a then x + a - m else x + a) else x) + (if m ≤ a + a then a + a - m else a + a) * (b / 2)) % m = T := by
  have e1 : (if m ≤ a + a then a + a - m else a + a) % m = (a + a) % m := by
    split
    · rename_i h
      rw [← Nat.add_mod_right (a + a - m), Nat.sub_add_cancel h]
    · rfl
  have e2 : (if b % 2 = 1 then (if m ≤ x + a then x + a - m else x + a) else x) % m = (x + a * (b % 2)) % m := by
    rcases Nat.mod_two_eq_zero_or_one b with h | h <;> rw [h]
    · simp
    · simp only [if_pos]
      split
      · rename_i h2
        rw [← Nat.add_mod_right (x + a - m), Nat.sub_add_cancel h2, Nat.mul_one]
      · rw [Nat.mul_one]
  rw [Nat.add_mod, Nat.mul_mod, e1, ← Nat.mul_mod, e2, ← Nat.add_mod, ← hT]
  congr 1
  have hb := Nat.div_add_mod b 2
  generalize b / 2 = q at *
  generalize b % 2 = r at *
  rw [← hb, Nat.mul_add, Nat.add_mul]
  have e3 : a * (2 * q) = a * q + a * q := by rw [Nat.mul_left_comm, Nat.two_mul]
  rw [e3]
  omega
set_option maxRecDepth 100000 in
set_option maxHeartbeats 4000000 in
theorem times_any (a0 b0 m : Nat) (w : World) (ha : a0 < m) (hb : b0 < 4611686018427387904) (hm : m < 4611686018427387904) :
    Calls Tryz.prog 115 #[.int .i64 a0, .int .i64 b0, .int .i64 m] w fun e w' => e = .returned (.int .i64 (a0 * b0 % m : Nat)) ∧ w' = w := by
  obtain ⟨T, hT⟩ : ∃ T, T = a0 * b0 % m := ⟨_, rfl⟩
  rw [← hT]
  have HT0 : Hid ((0 + a0 * b0) % m = T) := Lib.hid (by rw [Nat.zero_add, hT])
  clear hT
  have HA := Lib.hid ha
  have HB := Lib.hid hb
  clear ha hb
  go_enter Tryz.func115, Tryz.ntmps115
  go_wp2_with fail
  go_loop [0, 1, 7] (fun av bv xv => ∃ a b x : Nat, av = .int .i64 a ∧ bv = .int .i64 b ∧ xv = .int .i64 x ∧ a < m ∧ x < m ∧ b < 4611686018427387904 ∧ Hid ((x + a * b) % m = T)) (fun _ bv _ => (intOf bv).toNat)
  case atStart => exact ⟨a0, b0, 0, rfl, rfl, rfl, HA.out, (by have := HA.out; omega), HB.out, HT0⟩
  case round =>
    obtain ⟨a, b, x, rfl, rfl, rfl, ha, hx, hb, HT⟩ := hrel
    by_cases h0 : 0 < b
    · have HS := Lib.hid (times_step HT.out hx ha)
      have HBh : Hid (b / 2 < b ∧ b / 2 < 4611686018427387904) := Lib.hid (by omega)
      have F0 : bits .and .i64 (b : Int) 1 = ((b % 2 : Nat) : Int) := and1 b (by omega)
      have F1 : (b : Int) / 2 = ((b / 2 : Nat) : Int) := by omega
      obtain ⟨q, hq⟩ : ∃ q, q = b / 2 := ⟨_, rfl⟩
      rw [← hq] at HS HBh F1
      clear HT hq
      have hqb : q < 4611686018427387904 := HBh.out.2
      by_cases h1 : b % 2 = 1
      · have G1 : bits .and .i64 (b : Int) 1 = 1 := by rw [F0, h1]; rfl
        rw [if_pos h1] at HS
        clear F0 h1
        by_cases h2 : m ≤ x + a
        · rw [if_pos h2] at HS
          by_cases h3 : m ≤ a + a
          · rw [if_pos h3] at HS
            go_wp2_with fail
            go_round
            case rel => exact ⟨a + a - m, q, x + a - m, by go_num, by go_num, by go_num, by omega, by omega, hqb, HS⟩
            case measure => have := HBh.out.1; simp [intOf]; omega
          · rw [if_neg h3] at HS
            go_wp2_with fail
            go_round
            case rel => exact ⟨a + a, q, x + a - m, by go_num, by go_num, by go_num, by omega, by omega, hqb, HS⟩
            case measure => have := HBh.out.1; simp [intOf]; omega
        · rw [if_neg h2] at HS
          by_cases h3 : m ≤ a + a
          · rw [if_pos h3] at HS
            go_wp2_with fail
            go_round
            case rel => exact ⟨a + a - m, q, x + a, by go_num, by go_num, by go_num, by omega, by omega, hqb, HS⟩
            case measure => have := HBh.out.1; simp [intOf]; omega
          · rw [if_neg h3] at HS
            go_wp2_with fail
            go_round
            case rel => exact ⟨a + a, q, x + a, by go_num, by go_num, by go_num, by omega, by omega, hqb, HS⟩
            case measure => have := HBh.out.1; simp [intOf]; omega
      · have G1 : bits .and .i64 (b : Int) 1 = 0 := by rw [F0]; omega
        rw [if_neg h1] at HS
        clear F0 h1
        by_cases h3 : m ≤ a + a
        · rw [if_pos h3] at HS
          go_wp2_with fail
          go_round
          case rel => exact ⟨a + a - m, q, x, by go_num, by go_num, by go_num, by omega, by omega, hqb, HS⟩
          case measure => have := HBh.out.1; simp [intOf]; omega
        · rw [if_neg h3] at HS
          go_wp2_with fail
          go_round
          case rel => exact ⟨a + a, q, x, by go_num, by go_num, by go_num, by omega, by omega, hqb, HS⟩
          case measure => have := HBh.out.1; simp [intOf]; omega
    · obtain rfl : b = 0 := by omega
      have HE : Hid (x = T) := Lib.hid (by have h := HT.out; rw [Nat.mul_zero, Nat.add_zero, Nat.mod_eq_of_lt hx] at h; exact h)
      go_wp2_with fail
      go_ret
      exact ⟨by rw [HE.out]; rfl, rfl⟩
set_option maxRecDepth 100000 in
set_option maxHeartbeats 2000000 in
theorem rmul_any (a b : Int) (w : World) (ha : -9223372036854775808 ≤ a ∧ a ≤ 9223372036854775807) (hb : -9223372036854775808 ≤ b ∧ b ≤ 9223372036854775807) :
    Calls Tryz.prog 67 #[.int .i64 a, .int .i64 b] w fun e w' => e = .returned (.int .i64 (mulN a b gP : Nat)) ∧ w' = w := by
  obtain ⟨x, hx⟩ : ∃ x, x = resN a gP := ⟨_, rfl⟩
  obtain ⟨y, hy⟩ : ∃ y, y = resN b gP := ⟨_, rfl⟩
  obtain ⟨z, hz⟩ : ∃ z, z = mulN a b gP := ⟨_, rfl⟩
  have hxm : x < 2305843009213691579 := by rw [hx]; exact resN_lt a (show 0 < gP by decide)
  have hym : y < 2305843009213691579 := by rw [hy]; exact resN_lt b (show 0 < gP by decide)
  have HX := Lib.hid hx
  have HY := Lib.hid hy
  have HZ : Hid (x * y % 2305843009213691579 = z) := Lib.hid (by rw [hx, hy, hz]; rfl)
  have HA := Lib.hid ha
  have HB := Lib.hid hb
  rw [← hz]
  clear hx hy hz ha hb
  go_enter Tryz.func67, Tryz.ntmps67
  go_wp2_with fail
  refine (rmod_any a gP _ HA.out (by decide) (by decide)).mono ?_
  rintro e w1 ⟨rfl, rfl⟩
  rw [← HX.out]
  go_wp2_with fail
  refine (rmod_any b gP _ HB.out (by decide) (by decide)).mono ?_
  rintro e w2 ⟨rfl, rfl⟩
  rw [← HY.out]
  go_wp2_with fail
  refine (times_any x y gP _ hxm (by omega) (by decide)).mono ?_
  rintro e w3 ⟨rfl, rfl⟩
  have HZ2 : Hid (x * y % gP = z) := HZ
  rw [HZ2.out]
  go_wp2_with fail
  go_ret
  exact ⟨rfl, rfl⟩
set_option maxRecDepth 100000 in
set_option maxHeartbeats 2000000 in
theorem rmulQ_any (a b : Int) (w : World) (ha : -9223372036854775808 ≤ a ∧ a ≤ 9223372036854775807) (hb : -9223372036854775808 ≤ b ∧ b ≤ 9223372036854775807) :
    Calls Tryz.prog 110 #[.int .i64 a, .int .i64 b] w fun e w' => e = .returned (.int .i64 (mulN a b gQ : Nat)) ∧ w' = w := by
  obtain ⟨x, hx⟩ : ∃ x, x = resN a gQ := ⟨_, rfl⟩
  obtain ⟨y, hy⟩ : ∃ y, y = resN b gQ := ⟨_, rfl⟩
  obtain ⟨z, hz⟩ : ∃ z, z = mulN a b gQ := ⟨_, rfl⟩
  have hxm : x < 1152921504606845789 := by rw [hx]; exact resN_lt a (show 0 < gQ by decide)
  have hym : y < 1152921504606845789 := by rw [hy]; exact resN_lt b (show 0 < gQ by decide)
  have HX := Lib.hid hx
  have HY := Lib.hid hy
  have HZ : Hid (x * y % 1152921504606845789 = z) := Lib.hid (by rw [hx, hy, hz]; rfl)
  have HA := Lib.hid ha
  have HB := Lib.hid hb
  rw [← hz]
  clear hx hy hz ha hb
  go_enter Tryz.func110, Tryz.ntmps110
  go_wp2_with fail
  refine (rmod_any a gQ _ HA.out (by decide) (by decide)).mono ?_
  rintro e w1 ⟨rfl, rfl⟩
  rw [← HX.out]
  go_wp2_with fail
  refine (rmod_any b gQ _ HB.out (by decide) (by decide)).mono ?_
  rintro e w2 ⟨rfl, rfl⟩
  rw [← HY.out]
  go_wp2_with fail
  refine (times_any x y gQ _ hxm (by omega) (by decide)).mono ?_
  rintro e w3 ⟨rfl, rfl⟩
  have HZ2 : Hid (x * y % gQ = z) := HZ
  rw [HZ2.out]
  go_wp2_with fail
  go_ret
  exact ⟨rfl, rfl⟩
set_option maxRecDepth 100000 in
set_option maxHeartbeats 2000000 in
theorem raddQ_any (a b : Int) (w : World) (ha : -9223372036854775808 ≤ a ∧ a ≤ 9223372036854775807) (hb : -9223372036854775808 ≤ b ∧ b ≤ 9223372036854775807) :
    Calls Tryz.prog 109 #[.int .i64 a, .int .i64 b] w fun e w' => e = .returned (.int .i64 ((resN a gQ + resN b gQ) % gQ : Nat)) ∧ w' = w := by
  obtain ⟨x, hx⟩ : ∃ x, x = resN a gQ := ⟨_, rfl⟩
  obtain ⟨y, hy⟩ : ∃ y, y = resN b gQ := ⟨_, rfl⟩
  have hxm : x < 1152921504606845789 := by rw [hx]; exact resN_lt a (show 0 < gQ by decide)
  have hym : y < 1152921504606845789 := by rw [hy]; exact resN_lt b (show 0 < gQ by decide)
  obtain ⟨z, hz⟩ : ∃ z, z = (x + y) % gQ := ⟨_, rfl⟩
  have HZ : Hid (resN (((x + y : Nat) : Int)) gQ = z) := Lib.hid (by rw [hz, resN_nat])
  have HX := Lib.hid hx
  have HY := Lib.hid hy
  have HA := Lib.hid ha
  have HB := Lib.hid hb
  rw [← hx, ← hy, ← hz]
  clear hx hy hz ha hb
  have FS : (x : Int) + (y : Int) = ((x + y : Nat) : Int) := by omega
  obtain ⟨u, hu⟩ : ∃ u, u = x + y := ⟨_, rfl⟩
  rw [← hu] at FS HZ
  have hub : u < 2305843009213691578 := by omega
  clear hu
  go_enter Tryz.func109, Tryz.ntmps109
  go_wp2_with fail
  refine (rmod_any a gQ _ HA.out (by decide) (by decide)).mono ?_
  rintro e w1 ⟨rfl, rfl⟩
  rw [← HX.out]
  go_wp2_with fail
  refine (rmod_any b gQ _ HB.out (by decide) (by decide)).mono ?_
  rintro e w2 ⟨rfl, rfl⟩
  rw [← HY.out]
  go_wp2_with fail
  refine (rmod_any u gQ _ ⟨by omega, by omega⟩ (by decide) (by decide)).mono ?_
  rintro e w3 ⟨rfl, rfl⟩
  rw [HZ.out]
  go_wp2_with fail
  go_ret
  exact ⟨rfl, rfl⟩
theorem exp_step {x b e T : Nat} (hT : x * b ^ e % gP = T) (_h0 : 0 < e) :
    (if e % 2 = 1 then x * b % gP else x) * (b * b % gP) ^ (e / 2) % gP = T := by
  have h := Nat.div_add_mod e 2
  have e1 : (b * b % gP) ^ (e / 2) % gP = b ^ (2 * (e / 2)) % gP := by
    rw [← Nat.pow_mod, Nat.pow_mul, Nat.pow_two]
  rw [Nat.mul_mod, e1, ← Nat.mul_mod, ← hT]
  rcases Nat.mod_two_eq_zero_or_one e with g | g
  · rw [g, if_neg (by decide)]
    rw [g, Nat.add_zero] at h
    rw [h]
  · rw [g, if_pos rfl]
    rw [g] at h
    conv => rhs; rw [← h, Nat.pow_succ, ← Nat.mul_assoc, Nat.mul_right_comm]
    rw [Nat.mul_mod, Nat.mod_mod, ← Nat.mul_mod]
set_option maxRecDepth 100000 in
set_option maxHeartbeats 4000000 in
theorem rexp_any (a e0 : Int) (w : World) (ha : -9223372036854775808 ≤ a ∧ a ≤ 9223372036854775807) (he : 0 ≤ e0 ∧ e0 ≤ 9223372036854775807) :
    Calls Tryz.prog 68 #[.int .i64 a, .int .i64 e0] w fun e w' => e = .returned (.int .i64 (resN a gP ^ e0.toNat % gP : Nat)) ∧ w' = w := by
  obtain ⟨E, rfl⟩ : ∃ E : Nat, e0 = E := ⟨e0.toNat, by omega⟩
  rw [Int.toNat_natCast]
  obtain ⟨b0, hb0⟩ : ∃ b0, b0 = resN a gP := ⟨_, rfl⟩
  have hb0m : b0 < 2305843009213691579 := by rw [hb0]; exact resN_lt a (show 0 < gP by decide)
  obtain ⟨T, hT⟩ : ∃ T, T = b0 ^ E % gP := ⟨_, rfl⟩
  rw [← hb0, ← hT]
  have HT0 : Hid (1 * b0 ^ E % gP = T) := Lib.hid (by rw [Nat.one_mul, hT])
  have HB0 := Lib.hid hb0
  have HA := Lib.hid ha
  have hEb : E < 9223372036854775808 := by omega
  have HEb := Lib.hid hEb
  have F0 : ¬ ((E : Int) < 0) := by omega
  clear hb0 hT ha he hEb
  go_enter Tryz.func68, Tryz.ntmps68
  go_wp2_with fail
  refine (rmod_any a gP _ HA.out (by decide) (by decide)).mono ?_
  rintro e w1 ⟨rfl, rfl⟩
  rw [← HB0.out]
  go_wp2_with fail
  go_loop [1, 5, 6] (fun ev xv bv => ∃ e x b : Nat, ev = .int .i64 e ∧ xv = .int .i64 x ∧ bv = .int .i64 b ∧ x < 2305843009213691579 ∧ b < 2305843009213691579 ∧ e < 9223372036854775808 ∧ Hid (x * b ^ e % gP = T)) (fun ev _ _ => (intOf ev).toNat)
  case atStart => exact ⟨E, 1, b0, rfl, rfl, rfl, by decide, hb0m, HEb.out, HT0⟩
  case round =>
    obtain ⟨e, x, b, rfl, rfl, rfl, hx, hb, he, HT⟩ := hrel
    by_cases h0 : 0 < e
    · have HS := Lib.hid (exp_step HT.out h0)
      have HQ : Hid (e / 2 < e ∧ e / 2 < 9223372036854775808) := Lib.hid (by omega)
      have F1 : (e : Int) / 2 = ((e / 2 : Nat) : Int) := by omega
      obtain ⟨q, hq⟩ : ∃ q, q = e / 2 := ⟨_, rfl⟩
      rw [← hq] at HS HQ F1
      clear HT hq
      have hqb : q < 9223372036854775808 := HQ.out.2
      obtain ⟨b2, hb2⟩ : ∃ b2, b2 = b * b % gP := ⟨_, rfl⟩
      have hb2m : b2 < 2305843009213691579 := by rw [hb2]; exact lt_p _
      have HB2 := Lib.hid hb2
      rw [← hb2] at HS
      clear hb2
      by_cases h1 : e % 2 = 1
      · have G1 : (e : Int) % 2 = 1 := by omega
        rw [if_pos h1] at HS
        clear h1
        obtain ⟨x2, hx2⟩ : ∃ x2, x2 = x * b % gP := ⟨_, rfl⟩
        have hx2m : x2 < 2305843009213691579 := by rw [hx2]; exact lt_p _
        have HX2 := Lib.hid hx2
        rw [← hx2] at HS
        clear hx2
        go_wp2_with fail
        refine (times_any x b gP _ hx (by omega) (by decide)).mono ?_
        rintro e' w2 ⟨rfl, rfl⟩
        rw [← HX2.out]
        go_wp2_with fail
        refine (times_any b b gP _ hb (by omega) (by decide)).mono ?_
        rintro e' w3 ⟨rfl, rfl⟩
        rw [← HB2.out]
        go_wp2_with fail
        go_round
        case rel => exact ⟨q, x2, b2, by go_num, by go_num, by go_num, hx2m, hb2m, hqb, HS⟩
        case measure => have := HQ.out.1; simp [intOf]; omega
      · have G1 : (e : Int) % 2 = 0 := by omega
        rw [if_neg h1] at HS
        clear h1
        go_wp2_with fail
        refine (times_any b b gP _ hb (by omega) (by decide)).mono ?_
        rintro e' w3 ⟨rfl, rfl⟩
        rw [← HB2.out]
        go_wp2_with fail
        go_round
        case rel => exact ⟨q, x, b2, by go_num, by go_num, by go_num, hx, hb2m, hqb, HS⟩
        case measure => have := HQ.out.1; simp [intOf]; omega
    · obtain rfl : e = 0 := by omega
      have HE : Hid (x = T) := Lib.hid (by have h := HT.out; rw [Nat.pow_zero, Nat.mul_one, Nat.mod_eq_of_lt (show x < gP from hx)] at h; exact h)
      go_wp2_with fail
      go_ret
      exact ⟨by rw [HE.out]; rfl, rfl⟩
set_option maxRecDepth 100000 in
set_option maxHeartbeats 2000000 in
theorem rin_any (y : Int) (w : World) (hy : -9223372036854775808 ≤ y ∧ y ≤ 9223372036854775807) :
    ∃ b : Bool, (b = true ↔ InG y) ∧ Calls Tryz.prog 145 #[.int .i64 y] w fun e w' => e = .returned (.bool b) ∧ w' = w := by
  by_cases h1 : 1 ≤ y
  · by_cases h2 : y < 2305843009213691579
    · obtain ⟨z, hz⟩ : ∃ z, z = resN y gP ^ (1152921504606845789 : Int).toNat % gP := ⟨_, rfl⟩
      have hz2 : z = y.toNat ^ gQ % gP := by rw [hz, resN_in h1 h2]; rfl
      have HZ := Lib.hid hz
      have HY := Lib.hid hy
      clear hz hy
      have t1 : decide (1 ≤ y) = true := decide_eq_true h1
      have t2 : decide (y < 2305843009213691579) = true := decide_eq_true h2
      by_cases h3 : z = 1
      · refine ⟨true, ⟨fun _ => ⟨h1, h2, by rw [← hz2]; exact h3⟩, fun _ => rfl⟩, ?_⟩
        have H3 := Lib.hid h3
        have t3 : ((z : Int) == 1) = true := by rw [beq_iff_eq]; omega
        clear h1 h2 h3 hz2
        go_enter Tryz.func145, Tryz.ntmps145
        go_wp2_with fail
        refine (rexp_any y 1152921504606845789 _ HY.out (by decide)).mono ?_
        rintro e w1 ⟨rfl, rfl⟩
        rw [← HZ.out]
        go_wp2_with fail
        go_ret
        exact ⟨rfl, rfl⟩
      · refine ⟨false, ⟨(fun h => by cases h), fun h => absurd (hz2.trans h.2.2) h3⟩, ?_⟩
        have t3 : ((z : Int) == 1) = false := by rw [beq_eq_false_iff_ne]; omega
        clear h1 h2 h3 hz2
        go_enter Tryz.func145, Tryz.ntmps145
        go_wp2_with fail
        refine (rexp_any y 1152921504606845789 _ HY.out (by decide)).mono ?_
        rintro e w1 ⟨rfl, rfl⟩
        rw [← HZ.out]
        go_wp2_with fail
        go_ret
        exact ⟨rfl, rfl⟩
    · refine ⟨false, ⟨(fun h => by cases h), fun h => absurd h.2.1 h2⟩, ?_⟩
      have t1 : decide (1 ≤ y) = true := decide_eq_true h1
      have t2 : decide (y < 2305843009213691579) = false := decide_eq_false h2
      clear h1 h2
      go_enter Tryz.func145, Tryz.ntmps145
      go_wp2_with fail
      go_ret
      exact ⟨rfl, rfl⟩
  · refine ⟨false, ⟨(fun h => by cases h), fun h => absurd h.1 h1⟩, ?_⟩
    have t1 : decide (1 ≤ y) = false := decide_eq_false h1
    clear h1
    go_enter Tryz.func145, Tryz.ntmps145
    go_wp2_with fail
    go_ret
    exact ⟨rfl, rfl⟩
end Go.Proofs.YtgjklfddoechpaaGreatDoor
