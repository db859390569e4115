/- Texts merged: DLaw CEq SRef4 WList -/
import Derived.Maps.Views
import Derived.Lib.SlKeysI
import Derived.Laws.StructEq
import Derived.Test.YtjbjpkhibcnenaaGreatDoorCCore
import Derived.Outline
import Derived.Test.YtjbjpkhibcnenaaGreatDoorMix
import Derived.Deep.Heap
import Derived.Test.YtjbjpkhibcnenaaGreatDoorSChal
/- Wardens: orders by town as a sorted list, and what it reads as. -/
namespace Go.Proofs.YtjbjpkhibcnenaaGreatDoor
structure OV where
 level : Int
 number : Int
 hour : Int
 done : Bool
deriving DecidableEq
abbrev OM := List (Int × OV)
section
variable {H : Type}
def ovD (o : OV) : DataW H := .agg [.lit (.int .i64 o.level), .lit (.int .i64 o.number), .lit (.int .i64 o.hour), .lit (.bool o.done)]
def omD (m : OM) : DataW H := .map (m.map fun p => (Lit.int .i64 p.1, ovD p.2))
end
def getM : OM → Int → Option OV
 | [], _ => none
 | p :: m, t => if p.1 = t then some p.2 else getM m t
def insM (x : Int × OV) : OM → OM
 | [] => [x]
 | y :: r => if x.1 < y.1 then x :: y :: r else y :: insM x r
def delM (m : OM) (t : Int) : OM := m.filter fun p => !decide (p.1 = t)
def putM (m : OM) (t : Int) (o : OV) : OM := insM (t, o) (delM m t)
theorem insM_D {H : Type} (t : Int) (o : OV) : ∀ m : OM, DataW.insert (H := H) (.int .i64 t, ovD o) (m.map fun p => (Lit.int .i64 p.1, ovD p.2)) = (insM (t, o) m).map fun p => (Lit.int .i64 p.1, ovD p.2)
 | [] => rfl
 | y :: r => by
  simp only [List.map_cons, DataW.insert, insM, Lit.before, decide_eq_true_eq]
  by_cases h : t < y.1
  ·
   rw [if_pos h, if_pos h]
   rfl
  ·
   rw [if_neg h, if_neg h, insM_D t o r]
   rfl
theorem omD_put {H : Type} (m : OM) (t : Int) (o : OV) : (omD (H := H) m).put (.int .i64 t) (ovD o) = omD (putM m t o) := by
 unfold omD DataW.put putM delM
 simp only [DataW.map.injEq]
 rw [← insM_D, List.filter_map]
 congr 2
 apply List.filter_congr
 intro p _
 simp [Lit.sameKey]
theorem omD_atKey {H : Type} (m : OM) (t : Int) (z : DataW H) : (omD m).atKey (.int .i64 t) z = match getM m t with | some o => ovD o | none => z := by
 unfold omD DataW.atKey
 simp only
 induction m with
 | nil => rfl
 | cons p m ih =>
  simp only [List.map_cons, List.find?_cons, Lit.sameKey, true_and, getM]
  by_cases h : p.1 = t
  · simp [h]
  ·
   simp only [h, decide_false, if_false]
   exact ih
theorem getM_ins (t : Int) (o : OV) : ∀ (m : OM), (∀ p ∈ m, p.1 ≠ t) → ∀ t', getM (insM (t, o) m) t' = if t' = t then some o else getM m t'
 | [], _, t' => by
  simp only [insM, getM]
  by_cases h : t = t'
  · simp [h]
  · rw [if_neg h, if_neg (fun e => h e.symm)]
 | y :: r, hm, t' => by
  have hy : y.1 ≠ t := hm y (by simp)
  simp only [insM]
  by_cases h : t < y.1
  ·
   rw [if_pos h]
   simp only [getM]
   by_cases h2 : t = t'
   · simp [h2]
   · rw [if_neg h2, if_neg (show ¬ t' = t from fun e => h2 e.symm)]
  ·
   rw [if_neg h]
   simp only [getM]
   rw [getM_ins t o r (fun p hp => hm p (by simp [hp])) t']
   by_cases h2 : y.1 = t'
   · rw [if_pos h2, if_pos h2, if_neg (fun e => hy (h2.trans e))]
   · rw [if_neg h2, if_neg h2]
theorem getM_del (m : OM) (t t' : Int) (h : t' ≠ t) : getM (delM m t) t' = getM m t' := by
 unfold delM
 induction m with
 | nil => rfl
 | cons p m ih =>
  by_cases hp : p.1 = t
  ·
   rw [List.filter_cons_of_neg (by simp [hp])]
   simp only [getM]
   rw [if_neg (fun e => h (e.symm.trans hp)), ih]
  ·
   rw [List.filter_cons_of_pos (by simp [hp])]
   simp only [getM, ih]
theorem delM_ne (m : OM) (t : Int) : ∀ p ∈ delM m t, p.1 ≠ t := fun p hp => by
 unfold delM at hp
 simpa using (List.mem_filter.1 hp).2
theorem getM_put (m : OM) (t : Int) (o : OV) (t' : Int) : getM (putM m t o) t' = if t' = t then some o else getM m t' := by
 unfold putM
 rw [getM_ins t o _ (delM_ne m t)]
 by_cases h : t' = t
 · rw [if_pos h, if_pos h]
 · rw [if_neg h, if_neg h, getM_del m t t' h]
end Go.Proofs.YtjbjpkhibcnenaaGreatDoor
/- Equality of claims and of promises. -/
namespace Go.Proofs.YtjbjpkhibcnenaaGreatDoor
set_option maxHeartbeats 4000000
open Go.RowKit
theorem str_eqC {s t : ByteArray} (h : s.toList = t.toList) : s = t := by
 rw [ByteArray.toList_eq, ByteArray.toList_eq] at h
 cases s; cases t; simp at h; rw [h]
theorem ite_ok (p : Prop) [Decidable p] (X : Result Bool) (q : Bool) (w : World) (h : X = .ok q w) : (if p then X else .ok false w) = .ok (decide p && q) w := by
 by_cases hp : p
 · rw [if_pos hp, h, decide_eq_true hp]; rfl
 · rw [if_neg hp, decide_eq_false hp]; rfl
theorem ite_last (p : Prop) [Decidable p] (w : World) : (if p then (.ok true w : Result Bool) else .ok false w) = .ok (decide p) w := by
 by_cases hp : p
 · rw [if_pos hp, decide_eq_true hp]
 · rw [if_neg hp, decide_eq_false hp]
theorem eqC (a0 : Int) (a1 : Int) (a2 : Int) (a3 : Int) (a4 : Int) (a5 : ByteArray) (a6 : Int) (a7 : Int) (b0 : Int) (b1 : Int) (b2 : Int) (b3 : Int) (b4 : Int) (b5 : ByteArray) (b6 : Int) (b7 : Int) (w : World) : (Op.equalIn 10000 63 (.agg #[.int .i64 a0, .int .i64 a1, .int .i64 a2, .int .i64 a3, .int .i64 a4, .string a5, .int .i64 a6, .int .i64 a7]) (.agg #[.int .i64 b0, .int .i64 b1, .int .i64 b2, .int .i64 b3, .int .i64 b4, .string b5, .int .i64 b6, .int .i64 b7])).run Tryz.prog w = .ok (decide (a0 = b0 ∧ a1 = b1 ∧ a2 = b2 ∧ a3 = b3 ∧ a4 = b4 ∧ a5 = b5 ∧ a6 = b6 ∧ a7 = b7)) w := by
 have u3 := Tryz.underlying3
 have ia3 := Tryz.isAgg3
 have z3 := Tryz.sizeOf3
 have u9 := Tryz.underlying9
 have ia9 := Tryz.isAgg9
 have z9 := Tryz.sizeOf9
 have uS := Tryz.underlying36
 have aS := Tryz.isAgg36
 have zS := Tryz.sizeOf36
 have hS : Tryz.prog.underlying 63 = some (.struct (Tryz.prog.fieldsOf 63)) := by kernel_rfl
 have hp : Tryz.prog.stoodInHeld 63 = false := by kernel_rfl
 rw [show (10000 : Nat) = 9999 + 1 from rfl, run_equalIn_agg w 9999 63 _ _ hS hp]
 simp only [Program.fieldsOf, Tryz.underlying63]
 go_simp
 have hs5 : (a5.toList = b5.toList) = (a5 = b5) := propext ⟨str_eqC, fun e => by rw [e]⟩
 simp only [hs5]
 exact ite_ok _ _ _ _ (ite_ok _ _ _ _ (ite_ok _ _ _ _ (ite_ok _ _ _ _ (ite_ok _ _ _ _ (ite_ok _ _ _ _ (ite_ok _ _ _ _ (ite_last _ _)))))))
end Go.Proofs.YtjbjpkhibcnenaaGreatDoor
/- bourneref04: Mod, times, Mul, Exp, In, AddQ, MulQ. -/
namespace Go.Proofs.YtjbjpkhibcnenaaGreatDoor
set_option maxRecDepth 100000
set_option maxHeartbeats 4000000
open Go.RowKit
theorem rmod_any (n : Int) (m : Nat) (w : World) (hn : -9223372036854775808 ≤ n ∧ n ≤ 9223372036854775807) (hm0 : 0 < m) (hm : m < 4611686018427387904) :
 Calls Tryz.prog 142 #[.int .i64 n, .int .i64 m] w fun e w' => e = .returned (.int .i64 (resN n m : Nat)) ∧ w' = w := by
 have t1 : ¬ (m : Int) = 0 := by omega
 have hr := resN_cast n hm0
 have hb := Int.emod_lt_of_pos n (show (0 : Int) < m by omega)
 have h0 := Int.emod_nonneg n (show (m : Int) ≠ 0 by omega)
 have HR := Lib.hid hr
 clear hr
 by_cases hneg : 0 ≤ n
 ·
  have F1 : n % (m : Int) = (resN n m : Int) := HR.out.symm
  have F2 : ¬ ((resN n m : Int) < 0) := by omega
  go_enter Tryz.func142, Tryz.ntmps142
  go_wp2_with fail
  go_ret
  exact ⟨by first | rfl | rw [HR.out], rfl⟩
 ·
  obtain ⟨k, hk⟩ : ∃ k : Nat, (k : Int) = (-n) % (m : Int) := ⟨((-n) % (m : Int)).toNat, by have := Int.emod_nonneg (-n) (show (m : Int) ≠ 0 by omega); omega⟩
  have hkm : (k : Int) < m := by rw [hk]; exact Int.emod_lt_of_pos _ (by omega)
  have F1 : n.tmod (m : Int) = -(k : Int) := by
   rw [hk, ← Int.tmod_eq_emod_of_nonneg (show 0 ≤ -n by omega), Int.neg_tmod, Int.neg_neg]
  have e1 : n = -(k : Int) + (m : Int) * (-((-n) / (m : Int))) := by
   have := Int.emod_add_mul_ediv (-n) (m : Int)
   rw [← hk] at this
   rw [Int.mul_neg]
   omega
  have e2 : n % (m : Int) = (-(k : Int)) % (m : Int) := by
   conv => lhs; rw [e1]
   exact Int.add_mul_emod_self_left _ _ _
  by_cases h0k : k = 0
  ·
   have HE : Hid ((resN n m : Int) = 0) := Lib.hid (by rw [HR.out, e2, h0k]; simp)
   have F3 : ¬ (-(k : Int) < 0) := by omega
   clear hk e1 e2
   go_enter Tryz.func142, Tryz.ntmps142
   go_wp2_with fail
   go_ret
   exact ⟨by rw [HE.out]; first | rfl | (congr 2; omega), rfl⟩
  ·
   have HE : Hid ((resN n m : Int) = -(k : Int) + m) := Lib.hid (by
    rw [HR.out, e2, ← Int.add_emod_right, Int.emod_eq_of_lt (by omega) (by omega)])
   have F3 : -(k : Int) < 0 := by omega
   clear hk e1 e2
   go_enter Tryz.func142, Tryz.ntmps142
   go_wp2_with fail
   go_ret
   exact ⟨by rw [HE.out]; first | rfl | (congr 2; omega), rfl⟩
/-- the product of two residues -/

theorem times_step {x a b m T : Nat} (hT : (x + a * b) % m = T) (_hx : x < m) (_ha : a < m) :
 ((if b % 2 = 1 then (if m ≤ x + a then x + a - m else x + a) else x) + (if m ≤ a + a then a + a - m else a + a) * (b / 2)) % m = T := by
 have e1 : (if m ≤ a + a then a + a - m else a + a) % m = (a + a) % m := by
  split
  ·
   rename_i h
   rw [← Nat.add_mod_right (a + a - m), Nat.sub_add_cancel h]
  · rfl
 have e2 : (if b % 2 = 1 then (if m ≤ x + a then x + a - m else x + a) else x) % m = (x + a * (b % 2)) % m := by
  rcases Nat.mod_two_eq_zero_or_one b with h | h <;> rw [h]
  · simp
  ·
   simp only [if_pos]
   split
   ·
    rename_i h2
    rw [← Nat.add_mod_right (x + a - m), Nat.sub_add_cancel h2, Nat.mul_one]
   · rw [Nat.mul_one]
 rw [Nat.add_mod, Nat.mul_mod, e1, ← Nat.mul_mod, e2, ← Nat.add_mod, ← hT]
 congr 1
 have hb := Nat.div_add_mod b 2
 generalize b / 2 = q at *
 generalize b % 2 = r at *
 rw [← hb, Nat.mul_add, Nat.add_mul]
 have e3 : a * (2 * q) = a * q + a * q := by rw [Nat.mul_left_comm, Nat.two_mul]
 rw [e3]
 omega
theorem times_any (a0 b0 m : Nat) (w : World) (ha : a0 < m) (hb : b0 < 4611686018427387904) (hm : m < 4611686018427387904) :
 Calls Tryz.prog 143 #[.int .i64 a0, .int .i64 b0, .int .i64 m] w fun e w' => e = .returned (.int .i64 (a0 * b0 % m : Nat)) ∧ w' = w := by
 obtain ⟨T, hT⟩ : ∃ T, T = a0 * b0 % m := ⟨_, rfl⟩
 rw [← hT]
 have HT0 : Hid ((0 + a0 * b0) % m = T) := Lib.hid (by rw [Nat.zero_add, hT])
 clear hT
 have HA := Lib.hid ha
 have HB := Lib.hid hb
 clear ha hb
 go_enter Tryz.func143, Tryz.ntmps143
 go_wp2_with fail
 go_loop [0, 1, 7] (fun av bv xv => ∃ a b x : Nat, av = .int .i64 a ∧ bv = .int .i64 b ∧ xv = .int .i64 x ∧ a < m ∧ x < m ∧ b < 4611686018427387904 ∧ Hid ((x + a * b) % m = T)) (fun _ bv _ => (Go.RowKit.intOf bv).toNat)
 case atStart => exact ⟨a0, b0, 0, rfl, rfl, rfl, HA.out, (by have := HA.out; omega), HB.out, HT0⟩
 case round =>
  obtain ⟨a, b, x, rfl, rfl, rfl, ha, hx, hb, HT⟩ := hrel
  by_cases h0 : 0 < b
  ·
   have HS := Lib.hid (times_step HT.out hx ha)
   have HBh : Hid (b / 2 < b ∧ b / 2 < 4611686018427387904) := Lib.hid (by omega)
   have F0 : bits .and .i64 (b : Int) 1 = ((b % 2 : Nat) : Int) := and1 b (by omega)
   have F1 : (b : Int) / 2 = ((b / 2 : Nat) : Int) := by omega
   obtain ⟨q, hq⟩ : ∃ q, q = b / 2 := ⟨_, rfl⟩
   rw [← hq] at HS HBh F1
   clear HT hq
   have hqb : q < 4611686018427387904 := HBh.out.2
   by_cases h1 : b % 2 = 1
   ·
    have G1 : bits .and .i64 (b : Int) 1 = 1 := by rw [F0, h1]; rfl
    rw [if_pos h1] at HS
    clear F0 h1
    by_cases h2 : m ≤ x + a
    ·
     rw [if_pos h2] at HS
     by_cases h3 : m ≤ a + a
     ·
      rw [if_pos h3] at HS
      go_wp2_with fail
      go_round
      case rel => exact ⟨a + a - m, q, x + a - m, by go_num, by go_num, by go_num, by omega, by omega, hqb, HS⟩
      case measure => have := HBh.out.1; simp [Go.RowKit.intOf]; omega
     ·
      rw [if_neg h3] at HS
      go_wp2_with fail
      go_round
      case rel => exact ⟨a + a, q, x + a - m, by go_num, by go_num, by go_num, by omega, by omega, hqb, HS⟩
      case measure => have := HBh.out.1; simp [Go.RowKit.intOf]; omega
    ·
     rw [if_neg h2] at HS
     by_cases h3 : m ≤ a + a
     ·
      rw [if_pos h3] at HS
      go_wp2_with fail
      go_round
      case rel => exact ⟨a + a - m, q, x + a, by go_num, by go_num, by go_num, by omega, by omega, hqb, HS⟩
      case measure => have := HBh.out.1; simp [Go.RowKit.intOf]; omega
     ·
      rw [if_neg h3] at HS
      go_wp2_with fail
      go_round
      case rel => exact ⟨a + a, q, x + a, by go_num, by go_num, by go_num, by omega, by omega, hqb, HS⟩
      case measure => have := HBh.out.1; simp [Go.RowKit.intOf]; omega
   ·
    have G1 : bits .and .i64 (b : Int) 1 = 0 := by rw [F0]; omega
    rw [if_neg h1] at HS
    clear F0 h1
    by_cases h3 : m ≤ a + a
    ·
     rw [if_pos h3] at HS
     go_wp2_with fail
     go_round
     case rel => exact ⟨a + a - m, q, x, by go_num, by go_num, by go_num, by omega, by omega, hqb, HS⟩
     case measure => have := HBh.out.1; simp [Go.RowKit.intOf]; omega
    ·
     rw [if_neg h3] at HS
     go_wp2_with fail
     go_round
     case rel => exact ⟨a + a, q, x, by go_num, by go_num, by go_num, by omega, by omega, hqb, HS⟩
     case measure => have := HBh.out.1; simp [Go.RowKit.intOf]; omega
  ·
   obtain rfl : b = 0 := by omega
   have HE : Hid (x = T) := Lib.hid (by have h := HT.out; rw [Nat.mul_zero, Nat.add_zero, Nat.mod_eq_of_lt hx] at h; exact h)
   go_wp2_with fail
   go_ret
   exact ⟨by rw [HE.out]; rfl, rfl⟩
theorem rmul_any (a b : Int) (w : World) (ha : -9223372036854775808 ≤ a ∧ a ≤ 9223372036854775807) (hb : -9223372036854775808 ≤ b ∧ b ≤ 9223372036854775807) :
 Calls Tryz.prog 148 #[.int .i64 a, .int .i64 b] w fun e w' => e = .returned (.int .i64 (mulN a b gP : Nat)) ∧ w' = w := by
 obtain ⟨x, hx⟩ : ∃ x, x = resN a gP := ⟨_, rfl⟩
 obtain ⟨y, hy⟩ : ∃ y, y = resN b gP := ⟨_, rfl⟩
 obtain ⟨z, hz⟩ : ∃ z, z = mulN a b gP := ⟨_, rfl⟩
 have hxm : x < 2305843009213691579 := by rw [hx]; exact resN_lt a (show 0 < gP by decide)
 have hym : y < 2305843009213691579 := by rw [hy]; exact resN_lt b (show 0 < gP by decide)
 have HX := Lib.hid hx
 have HY := Lib.hid hy
 have HZ : Hid (x * y % 2305843009213691579 = z) := Lib.hid (by rw [hx, hy, hz]; rfl)
 have HA := Lib.hid ha
 have HB := Lib.hid hb
 rw [← hz]
 clear hx hy hz ha hb
 go_enter Tryz.func148, Tryz.ntmps148
 go_wp2_with fail
 refine (rmod_any a gP _ HA.out (by decide) (by decide)).mono ?_
 rintro e w1 ⟨rfl, rfl⟩
 rw [← HX.out]
 go_wp2_with fail
 refine (rmod_any b gP _ HB.out (by decide) (by decide)).mono ?_
 rintro e w2 ⟨rfl, rfl⟩
 rw [← HY.out]
 go_wp2_with fail
 refine (times_any x y gP _ hxm (by omega) (by decide)).mono ?_
 rintro e w3 ⟨rfl, rfl⟩
 have HZ2 : Hid (x * y % gP = z) := HZ
 rw [HZ2.out]
 go_wp2_with fail
 go_ret
 exact ⟨rfl, rfl⟩
theorem exp_step {x b e T : Nat} (hT : x * b ^ e % gP = T) (_h0 : 0 < e) :
 (if e % 2 = 1 then x * b % gP else x) * (b * b % gP) ^ (e / 2) % gP = T := by
 have h := Nat.div_add_mod e 2
 have e1 : (b * b % gP) ^ (e / 2) % gP = b ^ (2 * (e / 2)) % gP := by
  rw [← Nat.pow_mod, Nat.pow_mul, Nat.pow_two]
 rw [Nat.mul_mod, e1, ← Nat.mul_mod, ← hT]
 rcases Nat.mod_two_eq_zero_or_one e with g | g
 ·
  rw [g, if_neg (by decide)]
  rw [g, Nat.add_zero] at h
  rw [h]
 ·
  rw [g, if_pos rfl]
  rw [g] at h
  conv => rhs; rw [← h, Nat.pow_succ, ← Nat.mul_assoc, Nat.mul_right_comm]
  rw [Nat.mul_mod, Nat.mod_mod, ← Nat.mul_mod]
theorem rexp_any (a e0 : Int) (w : World) (ha : -9223372036854775808 ≤ a ∧ a ≤ 9223372036854775807) (he : 0 ≤ e0 ∧ e0 ≤ 9223372036854775807) :
 Calls Tryz.prog 121 #[.int .i64 a, .int .i64 e0] w fun e w' => e = .returned (.int .i64 (resN a gP ^ e0.toNat % gP : Nat)) ∧ w' = w := by
 obtain ⟨E, rfl⟩ : ∃ E : Nat, e0 = E := ⟨e0.toNat, by omega⟩
 rw [Int.toNat_natCast]
 obtain ⟨b0, hb0⟩ : ∃ b0, b0 = resN a gP := ⟨_, rfl⟩
 have hb0m : b0 < 2305843009213691579 := by rw [hb0]; exact resN_lt a (show 0 < gP by decide)
 obtain ⟨T, hT⟩ : ∃ T, T = b0 ^ E % gP := ⟨_, rfl⟩
 rw [← hb0, ← hT]
 have HT0 : Hid (1 * b0 ^ E % gP = T) := Lib.hid (by rw [Nat.one_mul, hT])
 have HB0 := Lib.hid hb0
 have HA := Lib.hid ha
 have hEb : E < 9223372036854775808 := by omega
 have HEb := Lib.hid hEb
 have F0 : ¬ ((E : Int) < 0) := by omega
 clear hb0 hT ha he hEb
 go_enter Tryz.func121, Tryz.ntmps121
 go_wp2_with fail
 refine (rmod_any a gP _ HA.out (by decide) (by decide)).mono ?_
 rintro e w1 ⟨rfl, rfl⟩
 rw [← HB0.out]
 go_wp2_with fail
 go_loop [1, 5, 6] (fun ev xv bv => ∃ e x b : Nat, ev = .int .i64 e ∧ xv = .int .i64 x ∧ bv = .int .i64 b ∧ x < 2305843009213691579 ∧ b < 2305843009213691579 ∧ e < 9223372036854775808 ∧ Hid (x * b ^ e % gP = T)) (fun ev _ _ => (Go.RowKit.intOf ev).toNat)
 case atStart => exact ⟨E, 1, b0, rfl, rfl, rfl, by decide, hb0m, HEb.out, HT0⟩
 case round =>
  obtain ⟨e, x, b, rfl, rfl, rfl, hx, hb, he, HT⟩ := hrel
  by_cases h0 : 0 < e
  ·
   have HS := Lib.hid (exp_step HT.out h0)
   have HQ : Hid (e / 2 < e ∧ e / 2 < 9223372036854775808) := Lib.hid (by omega)
   have F1 : (e : Int) / 2 = ((e / 2 : Nat) : Int) := by omega
   obtain ⟨q, hq⟩ : ∃ q, q = e / 2 := ⟨_, rfl⟩
   rw [← hq] at HS HQ F1
   clear HT hq
   have hqb : q < 9223372036854775808 := HQ.out.2
   obtain ⟨b2, hb2⟩ : ∃ b2, b2 = b * b % gP := ⟨_, rfl⟩
   have hb2m : b2 < 2305843009213691579 := by rw [hb2]; exact lt_p _
   have HB2 := Lib.hid hb2
   rw [← hb2] at HS
   clear hb2
   by_cases h1 : e % 2 = 1
   ·
    have G1 : (e : Int) % 2 = 1 := by omega
    rw [if_pos h1] at HS
    clear h1
    obtain ⟨x2, hx2⟩ : ∃ x2, x2 = x * b % gP := ⟨_, rfl⟩
    have hx2m : x2 < 2305843009213691579 := by rw [hx2]; exact lt_p _
    have HX2 := Lib.hid hx2
    rw [← hx2] at HS
    clear hx2
    go_wp2_with fail
    refine (times_any x b gP _ hx (by omega) (by decide)).mono ?_
    rintro e' w2 ⟨rfl, rfl⟩
    rw [← HX2.out]
    go_wp2_with fail
    refine (times_any b b gP _ hb (by omega) (by decide)).mono ?_
    rintro e' w3 ⟨rfl, rfl⟩
    rw [← HB2.out]
    go_wp2_with fail
    go_round
    case rel => exact ⟨q, x2, b2, by go_num, by go_num, by go_num, hx2m, hb2m, hqb, HS⟩
    case measure => have := HQ.out.1; simp [Go.RowKit.intOf]; omega
   ·
    have G1 : (e : Int) % 2 = 0 := by omega
    rw [if_neg h1] at HS
    clear h1
    go_wp2_with fail
    refine (times_any b b gP _ hb (by omega) (by decide)).mono ?_
    rintro e' w3 ⟨rfl, rfl⟩
    rw [← HB2.out]
    go_wp2_with fail
    go_round
    case rel => exact ⟨q, x, b2, by go_num, by go_num, by go_num, hx, hb2m, hqb, HS⟩
    case measure => have := HQ.out.1; simp [Go.RowKit.intOf]; omega
  ·
   obtain rfl : e = 0 := by omega
   have HE : Hid (x = T) := Lib.hid (by have h := HT.out; rw [Nat.pow_zero, Nat.mul_one, Nat.mod_eq_of_lt (show x < gP from hx)] at h; exact h)
   go_wp2_with fail
   go_ret
   exact ⟨by rw [HE.out]; rfl, rfl⟩
theorem rin_any (y : Int) (w : World) (hy : -9223372036854775808 ≤ y ∧ y ≤ 9223372036854775807) :
 ∃ b : Bool, (b = true ↔ InG y) ∧ Calls Tryz.prog 146 #[.int .i64 y] w fun e w' => e = .returned (.bool b) ∧ w' = w := by
 by_cases h1 : 1 ≤ y
 ·
  by_cases h2 : y < 2305843009213691579
  ·
   obtain ⟨z, hz⟩ : ∃ z, z = resN y gP ^ (1152921504606845789 : Int).toNat % gP := ⟨_, rfl⟩
   have hz2 : z = y.toNat ^ gQ % gP := by rw [hz, resN_in h1 h2]; rfl
   have HZ := Lib.hid hz
   have HY := Lib.hid hy
   clear hz hy
   have t1 : decide (1 ≤ y) = true := decide_eq_true h1
   have t2 : decide (y < 2305843009213691579) = true := decide_eq_true h2
   by_cases h3 : z = 1
   ·
    refine ⟨true, ⟨fun _ => ⟨h1, h2, by rw [← hz2]; exact h3⟩, fun _ => rfl⟩, ?_⟩
    have H3 := Lib.hid h3
    have t3 : ((z : Int) == 1) = true := by rw [beq_iff_eq]; omega
    clear h1 h2 h3 hz2
    go_enter Tryz.func146, Tryz.ntmps146
    go_wp2_with fail
    refine (rexp_any y 1152921504606845789 _ HY.out (by decide)).mono ?_
    rintro e w1 ⟨rfl, rfl⟩
    rw [← HZ.out]
    go_wp2_with fail
    go_ret
    exact ⟨rfl, rfl⟩
   ·
    refine ⟨false, ⟨(fun h => by cases h), fun h => absurd (hz2.trans h.2.2) h3⟩, ?_⟩
    have t3 : ((z : Int) == 1) = false := by rw [beq_eq_false_iff_ne]; omega
    clear h1 h2 h3 hz2
    go_enter Tryz.func146, Tryz.ntmps146
    go_wp2_with fail
    refine (rexp_any y 1152921504606845789 _ HY.out (by decide)).mono ?_
    rintro e w1 ⟨rfl, rfl⟩
    rw [← HZ.out]
    go_wp2_with fail
    go_ret
    exact ⟨rfl, rfl⟩
  ·
   refine ⟨false, ⟨(fun h => by cases h), fun h => absurd h.2.1 h2⟩, ?_⟩
   have t1 : decide (1 ≤ y) = true := decide_eq_true h1
   have t2 : decide (y < 2305843009213691579) = false := decide_eq_false h2
   clear h1 h2
   go_enter Tryz.func146, Tryz.ntmps146
   go_wp2_with fail
   go_ret
   exact ⟨rfl, rfl⟩
 ·
  refine ⟨false, ⟨(fun h => by cases h), fun h => absurd h.1 h1⟩, ?_⟩
  have t1 : decide (1 ≤ y) = false := decide_eq_false h1
  clear h1
  go_enter Tryz.func146, Tryz.ntmps146
  go_wp2_with fail
  go_ret
  exact ⟨rfl, rfl⟩
end Go.Proofs.YtjbjpkhibcnenaaGreatDoor
/- Package wire: a reader's lists: Nums, Texts. -/
namespace Go.Proofs.YtjbjpkhibcnenaaGreatDoor
open Go.RowKit
theorem rdList_one {α : Type} (f : List UInt8 → Option (α × List UInt8)) (n : Nat) (t : List UInt8) : rdList f (n + 1) (1 :: t) = match f t with | none => none | some (x, r) => (rdList f n r).map fun p => (x :: p.1, p.2) := rfl
/-- what reading a list has come to: acc has been read, st is left -/
def LInv {α : Type} (f : List UInt8 → Option (α × List UInt8)) (R : Option (List α × List UInt8)) (acc : List α) (st : RSt) : Prop :=
 match st with
 | none => R = none
 | some cur => ∃ n, cur.length < n ∧ R = (rdList f n cur).map fun p => (acc ++ p.1, p.2)
theorem LInv.start {α : Type} (f : List UInt8 → Option (α × List UInt8)) (s : List UInt8) : LInv f (rdList f (s.length + 1) s) [] (some s) := ⟨_, Nat.lt_succ_self _, by simp⟩
theorem LInv.step {α : Type} {f : List UInt8 → Option (α × List UInt8)} (hf : ∀ s x r, f s = some (x, r) → r.length < s.length) {R : Option (List α × List UInt8)} {acc : List α} {t : List UInt8} (h : LInv f R acc (some (1 :: t))) :
 (∀ x r, f t = some (x, r) → LInv f R (acc ++ [x]) (some r)) ∧ (f t = none → R = none) := by
 obtain ⟨n, hn, h⟩ := h
 cases n with
 | zero => omega
 | succ n =>
  rw [rdList_one] at h
  constructor
  ·
   intro x r hx
   rw [hx] at h
   simp only at h
   have := hf _ _ _ hx
   simp only [List.length_cons] at hn
   refine ⟨n, by omega, ?_⟩
   rw [h, Option.map_map]
   congr 1
   funext p
   simp
  ·
   intro hx
   rw [hx] at h
   exact h
end Go.Proofs.YtjbjpkhibcnenaaGreatDoor
