/- Texts merged: SRef4 WList WRefA Reg RefB SIdx -/
import Derived.Outline
import Derived.Test.YtjbjpkhibcnenaaGreatDoorWords
import Derived.Deep.Heap
import Derived.OneCell
import Derived.Test.YtjbjpkhibcnenaaGreatDoorSHash
import Derived.Deep.AppendSrc
import Derived.Deep.RegionHeldLaw
import Derived.Test.YtjbjpkhibcnenaaGreatDoorSShort
import Derived.StillTailTactics
/- bourneref04: Mod, times, Mul, Exp, In, AddQ, MulQ. -/
namespace Go.Proofs.YtjbjpkhibcnenaaGreatDoor
open Go.RowKit
set_option maxRecDepth 100000 in
set_option maxHeartbeats 1000000 in
theorem rmod_any (n : Int) (m : Nat) (w : World) (hn : -9223372036854775808 ≤ n ∧ n ≤ 9223372036854775807) (hm0 : 0 < m) (hm : m < 4611686018427387904) :
    Calls Tryz.prog 142 #[.int .i64 n, .int .i64 m] w fun e w' => e = .returned (.int .i64 (resN n m : Nat)) ∧ w' = w := by
  have t1 : ¬ (m : Int) = 0 := by omega
  have hr := resN_cast n hm0
  have hb := Int.emod_lt_of_pos n (show (0 : Int) < m by omega)
  have h0 := Int.emod_nonneg n (show (m : Int) ≠ 0 by omega)
  have HR := Lib.hid hr
  clear hr
  by_cases hneg : 0 ≤ n
  · have F1 : n % (m : Int) = (resN n m : Int) := HR.out.symm
    have F2 : ¬ ((resN n m : Int) < 0) := by omega
    go_enter Tryz.func142, Tryz.ntmps142
    go_wp2_with fail
    go_ret
    exact ⟨by first | rfl | rw [HR.out], rfl⟩
  · obtain ⟨k, hk⟩ : ∃ k : Nat, (k : Int) = (-n) % (m : Int) := ⟨((-n) % (m : Int)).toNat, by have := Int.emod_nonneg (-n) (show (m : Int) ≠ 0 by omega); omega⟩
    have hkm : (k : Int) < m := by rw [hk]; exact Int.emod_lt_of_pos _ (by omega)
    have F1 : n.tmod (m : Int) = -(k : Int) := by
      rw [hk, ← Int.tmod_eq_emod_of_nonneg (show 0 ≤ -n by omega), Int.neg_tmod, Int.neg_neg]
    have e1 : n = -(k : Int) + (m : Int) * (-((-n) / (m : Int))) := by
      have := Int.emod_add_mul_ediv (-n) (m : Int)
      rw [← hk] at this
      rw [Int.mul_neg]
      omega
    have e2 : n % (m : Int) = (-(k : Int)) % (m : Int) := by
      conv => lhs; rw [e1]
      exact Int.add_mul_emod_self_left _ _ _
    by_cases h0k : k = 0
    · have HE : Hid ((resN n m : Int) = 0) := Lib.hid (by rw [HR.out, e2, h0k]; simp)
      have F3 : ¬ (-(k : Int) < 0) := by omega
      clear hk e1 e2
      go_enter Tryz.func142, Tryz.ntmps142
      go_wp2_with fail
      go_ret
      exact ⟨by rw [HE.out]; first | rfl | (congr 2; omega), rfl⟩
    · have HE : Hid ((resN n m : Int) = -(k : Int) + m) := Lib.hid (by
        rw [HR.out, e2, ← Int.add_emod_right, Int.emod_eq_of_lt (by omega) (by omega)])
      have F3 : -(k : Int) < 0 := by omega
      clear hk e1 e2
      go_enter Tryz.func142, Tryz.ntmps142
      go_wp2_with fail
      go_ret
      exact ⟨by rw [HE.out]; first | rfl | (congr 2; omega), rfl⟩
/-- the product of two residues -/

theorem times_step {x a b m T : Nat} (hT : (x + a * b) % m = T) (_hx : x < m) (_ha : a < m) :
    ((if b % 2 = 1 then (if m ≤ x + a then x + a - m else x + a) else x) + (if m ≤ a + a then a + a - m else a + a) * (b / 2)) % m = T := by
  have e1 : (if m ≤ a + a then a + a - m else a + a) % m = (a + a) % m := by
    split
    · rename_i h
      rw [← Nat.add_mod_right (a + a - m), Nat.sub_add_cancel h]
    · rfl
  have e2 : (if b % 2 = 1 then (if m ≤ x + a then x + a - m else x + a) else x) % m = (x + a * (b % 2)) % m := by
    rcases Nat.mod_two_eq_zero_or_one b with h | h <;> rw [h]
    · simp
    · simp only [if_pos]
      split
      · rename_i h2
        rw [← Nat.add_mod_right (x + a - m), Nat.sub_add_cancel h2, Nat.mul_one]
      · rw [Nat.mul_one]
  rw [Nat.add_mod, Nat.mul_mod, e1, ← Nat.mul_mod, e2, ← Nat.add_mod, ← hT]
  congr 1
  have hb := Nat.div_add_mod b 2
  generalize b / 2 = q at *
  generalize b % 2 = r at *
  rw [← hb, Nat.mul_add, Nat.add_mul]
  have e3 : a * (2 * q) = a * q + a * q := by rw [Nat.mul_left_comm, Nat.two_mul]
  rw [e3]
  omega
set_option maxRecDepth 100000 in
set_option maxHeartbeats 4000000 in
theorem times_any (a0 b0 m : Nat) (w : World) (ha : a0 < m) (hb : b0 < 4611686018427387904) (hm : m < 4611686018427387904) :
    Calls Tryz.prog 143 #[.int .i64 a0, .int .i64 b0, .int .i64 m] w fun e w' => e = .returned (.int .i64 (a0 * b0 % m : Nat)) ∧ w' = w := by
  obtain ⟨T, hT⟩ : ∃ T, T = a0 * b0 % m := ⟨_, rfl⟩
  rw [← hT]
  have HT0 : Hid ((0 + a0 * b0) % m = T) := Lib.hid (by rw [Nat.zero_add, hT])
  clear hT
  have HA := Lib.hid ha
  have HB := Lib.hid hb
  clear ha hb
  go_enter Tryz.func143, Tryz.ntmps143
  go_wp2_with fail
  go_loop [0, 1, 7] (fun av bv xv => ∃ a b x : Nat, av = .int .i64 a ∧ bv = .int .i64 b ∧ xv = .int .i64 x ∧ a < m ∧ x < m ∧ b < 4611686018427387904 ∧ Hid ((x + a * b) % m = T)) (fun _ bv _ => (intOf bv).toNat)
  case atStart => exact ⟨a0, b0, 0, rfl, rfl, rfl, HA.out, (by have := HA.out; omega), HB.out, HT0⟩
  case round =>
    obtain ⟨a, b, x, rfl, rfl, rfl, ha, hx, hb, HT⟩ := hrel
    by_cases h0 : 0 < b
    · have HS := Lib.hid (times_step HT.out hx ha)
      have HBh : Hid (b / 2 < b ∧ b / 2 < 4611686018427387904) := Lib.hid (by omega)
      have F0 : bits .and .i64 (b : Int) 1 = ((b % 2 : Nat) : Int) := and1 b (by omega)
      have F1 : (b : Int) / 2 = ((b / 2 : Nat) : Int) := by omega
      obtain ⟨q, hq⟩ : ∃ q, q = b / 2 := ⟨_, rfl⟩
      rw [← hq] at HS HBh F1
      clear HT hq
      have hqb : q < 4611686018427387904 := HBh.out.2
      by_cases h1 : b % 2 = 1
      · have G1 : bits .and .i64 (b : Int) 1 = 1 := by rw [F0, h1]; rfl
        rw [if_pos h1] at HS
        clear F0 h1
        by_cases h2 : m ≤ x + a
        · rw [if_pos h2] at HS
          by_cases h3 : m ≤ a + a
          · rw [if_pos h3] at HS
            go_wp2_with fail
            go_round
            case rel => exact ⟨a + a - m, q, x + a - m, by go_num, by go_num, by go_num, by omega, by omega, hqb, HS⟩
            case measure => have := HBh.out.1; simp [intOf]; omega
          · rw [if_neg h3] at HS
            go_wp2_with fail
            go_round
            case rel => exact ⟨a + a, q, x + a - m, by go_num, by go_num, by go_num, by omega, by omega, hqb, HS⟩
            case measure => have := HBh.out.1; simp [intOf]; omega
        · rw [if_neg h2] at HS
          by_cases h3 : m ≤ a + a
          · rw [if_pos h3] at HS
            go_wp2_with fail
            go_round
            case rel => exact ⟨a + a - m, q, x + a, by go_num, by go_num, by go_num, by omega, by omega, hqb, HS⟩
            case measure => have := HBh.out.1; simp [intOf]; omega
          · rw [if_neg h3] at HS
            go_wp2_with fail
            go_round
            case rel => exact ⟨a + a, q, x + a, by go_num, by go_num, by go_num, by omega, by omega, hqb, HS⟩
            case measure => have := HBh.out.1; simp [intOf]; omega
      · have G1 : bits .and .i64 (b : Int) 1 = 0 := by rw [F0]; omega
        rw [if_neg h1] at HS
        clear F0 h1
        by_cases h3 : m ≤ a + a
        · rw [if_pos h3] at HS
          go_wp2_with fail
          go_round
          case rel => exact ⟨a + a - m, q, x, by go_num, by go_num, by go_num, by omega, by omega, hqb, HS⟩
          case measure => have := HBh.out.1; simp [intOf]; omega
        · rw [if_neg h3] at HS
          go_wp2_with fail
          go_round
          case rel => exact ⟨a + a, q, x, by go_num, by go_num, by go_num, by omega, by omega, hqb, HS⟩
          case measure => have := HBh.out.1; simp [intOf]; omega
    · obtain rfl : b = 0 := by omega
      have HE : Hid (x = T) := Lib.hid (by have h := HT.out; rw [Nat.mul_zero, Nat.add_zero, Nat.mod_eq_of_lt hx] at h; exact h)
      go_wp2_with fail
      go_ret
      exact ⟨by rw [HE.out]; rfl, rfl⟩
theorem exp_step {x b e T : Nat} (hT : x * b ^ e % gP = T) (_h0 : 0 < e) :
    (if e % 2 = 1 then x * b % gP else x) * (b * b % gP) ^ (e / 2) % gP = T := by
  have h := Nat.div_add_mod e 2
  have e1 : (b * b % gP) ^ (e / 2) % gP = b ^ (2 * (e / 2)) % gP := by
    rw [← Nat.pow_mod, Nat.pow_mul, Nat.pow_two]
  rw [Nat.mul_mod, e1, ← Nat.mul_mod, ← hT]
  rcases Nat.mod_two_eq_zero_or_one e with g | g
  · rw [g, if_neg (by decide)]
    rw [g, Nat.add_zero] at h
    rw [h]
  · rw [g, if_pos rfl]
    rw [g] at h
    conv => rhs; rw [← h, Nat.pow_succ, ← Nat.mul_assoc, Nat.mul_right_comm]
    rw [Nat.mul_mod, Nat.mod_mod, ← Nat.mul_mod]
set_option maxRecDepth 100000 in
set_option maxHeartbeats 4000000 in
theorem rexp_any (a e0 : Int) (w : World) (ha : -9223372036854775808 ≤ a ∧ a ≤ 9223372036854775807) (he : 0 ≤ e0 ∧ e0 ≤ 9223372036854775807) :
    Calls Tryz.prog 121 #[.int .i64 a, .int .i64 e0] w fun e w' => e = .returned (.int .i64 (resN a gP ^ e0.toNat % gP : Nat)) ∧ w' = w := by
  obtain ⟨E, rfl⟩ : ∃ E : Nat, e0 = E := ⟨e0.toNat, by omega⟩
  rw [Int.toNat_natCast]
  obtain ⟨b0, hb0⟩ : ∃ b0, b0 = resN a gP := ⟨_, rfl⟩
  have hb0m : b0 < 2305843009213691579 := by rw [hb0]; exact resN_lt a (show 0 < gP by decide)
  obtain ⟨T, hT⟩ : ∃ T, T = b0 ^ E % gP := ⟨_, rfl⟩
  rw [← hb0, ← hT]
  have HT0 : Hid (1 * b0 ^ E % gP = T) := Lib.hid (by rw [Nat.one_mul, hT])
  have HB0 := Lib.hid hb0
  have HA := Lib.hid ha
  have hEb : E < 9223372036854775808 := by omega
  have HEb := Lib.hid hEb
  have F0 : ¬ ((E : Int) < 0) := by omega
  clear hb0 hT ha he hEb
  go_enter Tryz.func121, Tryz.ntmps121
  go_wp2_with fail
  refine (rmod_any a gP _ HA.out (by decide) (by decide)).mono ?_
  rintro e w1 ⟨rfl, rfl⟩
  rw [← HB0.out]
  go_wp2_with fail
  go_loop [1, 5, 6] (fun ev xv bv => ∃ e x b : Nat, ev = .int .i64 e ∧ xv = .int .i64 x ∧ bv = .int .i64 b ∧ x < 2305843009213691579 ∧ b < 2305843009213691579 ∧ e < 9223372036854775808 ∧ Hid (x * b ^ e % gP = T)) (fun ev _ _ => (intOf ev).toNat)
  case atStart => exact ⟨E, 1, b0, rfl, rfl, rfl, by decide, hb0m, HEb.out, HT0⟩
  case round =>
    obtain ⟨e, x, b, rfl, rfl, rfl, hx, hb, he, HT⟩ := hrel
    by_cases h0 : 0 < e
    · have HS := Lib.hid (exp_step HT.out h0)
      have HQ : Hid (e / 2 < e ∧ e / 2 < 9223372036854775808) := Lib.hid (by omega)
      have F1 : (e : Int) / 2 = ((e / 2 : Nat) : Int) := by omega
      obtain ⟨q, hq⟩ : ∃ q, q = e / 2 := ⟨_, rfl⟩
      rw [← hq] at HS HQ F1
      clear HT hq
      have hqb : q < 9223372036854775808 := HQ.out.2
      obtain ⟨b2, hb2⟩ : ∃ b2, b2 = b * b % gP := ⟨_, rfl⟩
      have hb2m : b2 < 2305843009213691579 := by rw [hb2]; exact lt_p _
      have HB2 := Lib.hid hb2
      rw [← hb2] at HS
      clear hb2
      by_cases h1 : e % 2 = 1
      · have G1 : (e : Int) % 2 = 1 := by omega
        rw [if_pos h1] at HS
        clear h1
        obtain ⟨x2, hx2⟩ : ∃ x2, x2 = x * b % gP := ⟨_, rfl⟩
        have hx2m : x2 < 2305843009213691579 := by rw [hx2]; exact lt_p _
        have HX2 := Lib.hid hx2
        rw [← hx2] at HS
        clear hx2
        go_wp2_with fail
        refine (times_any x b gP _ hx (by omega) (by decide)).mono ?_
        rintro e' w2 ⟨rfl, rfl⟩
        rw [← HX2.out]
        go_wp2_with fail
        refine (times_any b b gP _ hb (by omega) (by decide)).mono ?_
        rintro e' w3 ⟨rfl, rfl⟩
        rw [← HB2.out]
        go_wp2_with fail
        go_round
        case rel => exact ⟨q, x2, b2, by go_num, by go_num, by go_num, hx2m, hb2m, hqb, HS⟩
        case measure => have := HQ.out.1; simp [intOf]; omega
      · have G1 : (e : Int) % 2 = 0 := by omega
        rw [if_neg h1] at HS
        clear h1
        go_wp2_with fail
        refine (times_any b b gP _ hb (by omega) (by decide)).mono ?_
        rintro e' w3 ⟨rfl, rfl⟩
        rw [← HB2.out]
        go_wp2_with fail
        go_round
        case rel => exact ⟨q, x, b2, by go_num, by go_num, by go_num, hx, hb2m, hqb, HS⟩
        case measure => have := HQ.out.1; simp [intOf]; omega
    · obtain rfl : e = 0 := by omega
      have HE : Hid (x = T) := Lib.hid (by have h := HT.out; rw [Nat.pow_zero, Nat.mul_one, Nat.mod_eq_of_lt (show x < gP from hx)] at h; exact h)
      go_wp2_with fail
      go_ret
      exact ⟨by rw [HE.out]; rfl, rfl⟩
end Go.Proofs.YtjbjpkhibcnenaaGreatDoor
/- Package wire: a reader's lists: Nums, Texts. -/
namespace Go.Proofs.YtjbjpkhibcnenaaGreatDoor
open Go.RowKit
theorem rdList_one {α : Type} (f : List UInt8 → Option (α × List UInt8)) (n : Nat) (t : List UInt8) : rdList f (n + 1) (1 :: t) = match f t with | none => none | some (x, r) => (rdList f n r).map fun p => (x :: p.1, p.2) := rfl
/-- what reading a list has come to: acc has been read, st is left -/
def LInv {α : Type} (f : List UInt8 → Option (α × List UInt8)) (R : Option (List α × List UInt8)) (acc : List α) (st : RSt) : Prop :=
  match st with
  | none => R = none
  | some cur => ∃ n, cur.length < n ∧ R = (rdList f n cur).map fun p => (acc ++ p.1, p.2)
theorem LInv.start {α : Type} (f : List UInt8 → Option (α × List UInt8)) (s : List UInt8) : LInv f (rdList f (s.length + 1) s) [] (some s) := ⟨_, Nat.lt_succ_self _, by simp⟩
theorem LInv.step {α : Type} {f : List UInt8 → Option (α × List UInt8)} (hf : ∀ s x r, f s = some (x, r) → r.length < s.length) {R : Option (List α × List UInt8)} {acc : List α} {t : List UInt8} (h : LInv f R acc (some (1 :: t))) :
    (∀ x r, f t = some (x, r) → LInv f R (acc ++ [x]) (some r)) ∧ (f t = none → R = none) := by
  obtain ⟨n, hn, h⟩ := h
  cases n with
  | zero => omega
  | succ n =>
    rw [rdList_one] at h
    constructor
    · intro x r hx
      rw [hx] at h
      simp only at h
      have := hf _ _ _ hx
      simp only [List.length_cons] at hn
      refine ⟨n, by omega, ?_⟩
      rw [h, Option.map_map]
      congr 1
      funext p
      simp
    · intro hx
      rw [hx] at h
      exact h
end Go.Proofs.YtjbjpkhibcnenaaGreatDoor
/- bourneref02: digits, Int, Num, Text. -/
namespace Go.Proofs.YtjbjpkhibcnenaaGreatDoor
open Go.RowKit
set_option maxRecDepth 100000 in
set_option maxHeartbeats 2000000 in
theorem rtext_any (s : ByteArray) (w : World) (hs : s.size ≤ 1000000) :
    Calls Tryz.prog 91 #[.string s] w fun e w' => e = .returned (.string ⟨(textL s.data.toList).toArray⟩) ∧ Below w.heap.size w w' := by
  obtain ⟨i0, hi, hz0, hz1, hz2⟩ := info_parts infoB
  have HLn : Hid (∀ k, (escTs (s.data.toList.take k)).length ≤ 2000000) := by
    refine Lib.hid fun k => ?_
    have h1 := (escTs_len (s.data.toList.take k)).2
    have h2 := List.length_take_le' k s.data.toList
    have h3 : s.data.toList.length = s.size := by simp
    omega
  go_enter Tryz.func91, Tryz.ntmps91
  go_wp2_with fail
  go_loopw [3, 4] (fun v iv wr => ∃ k : Nat, k ≤ s.size ∧ iv = .int .i64 k ∧ wr.ownsRow w.heap.size 5 1 v (escTs (s.data.toList.take k)).length (bytesV (escTs (s.data.toList.take k))) ∧ Below w.heap.size w wr) (fun _ iv _ => s.size - (intOf iv).toNat)
  case atStart => exact ⟨0, by omega, rfl, World.ownsRow_nil _ _ _ _, Below.refl _ _⟩
  case round =>
    obtain ⟨k, hk, rfl, hown, hb⟩ := hrel
    have HO := Lib.hid hown
    have HB := Lib.hid hb
    have hsz := hb.size
    clear hown hb
    by_cases hlt : k < s.size
    · have HT : Hid (escTs (s.data.toList.take (k + 1)) = escTs (s.data.toList.take k) ++ escT s[k]) := Lib.hid (by
        rw [List.take_succ_eq_append_getElem (by simpa using hlt), escTs_append]
        simp [escTs]
        rfl)
      have hx := s[k].toNat_lt
      have hl2 := HLn.out k
      by_cases hz : s[k] = 0
      · have hzn : s[k].toNat = 0 := by rw [hz]; rfl
        have t0 : ((s[k].toNat : Int) == 0) = true := beq_iff_eq.2 (by omega)
        have HE : Hid ((bytesV (escTs (s.data.toList.take k)) ++ [Value.int .u8 (s[k].toNat : Int)]) ++ [Value.int .u8 255] = bytesV (escTs (s.data.toList.take (k + 1))) ∧ ((escTs (s.data.toList.take k)).length + 1) + 1 = (escTs (s.data.toList.take (k + 1))).length) := Lib.hid (by
          rw [HT.out, hz, bytesV_append]
          exact ⟨by simp [escT, bytesV], by simp [escT]⟩)
        clear hz hzn
        go_wp2_with (at_builtin; refine Hid.out ?_)
        refine Lib.hid ?_
        refine wpList_append_own _ rfl _ _ 113 rfl w.heap.size 5 i0 (.int .u8 0) 1 1 undBs hi hz0 hz1 hz2 rfl (by decide) _ _ _ rfl (HO.out.alloc _) ⟨wr.heap.size, 0, none⟩ 1 1 [.int .u8 (s[k].toNat : Int)] rfl rfl (cells_new _ _ _) (by intro u hu; simp at hu; subst hu; rfl) (by unfold maxLen; omega) (by omega) (by simp; omega) ?_
        intro v' w3 hown' hgrow _
        have HO2 := Lib.hid hown'
        have HB2 : Hid (Below w.heap.size w w3) := Lib.hid ((HB.out.alloc hsz _).grown hgrow (by simp; omega) (fun k hk => HO.out.block_ge hk))
        have hsz2 := HB2.out.size
        clear hown' hgrow
        go_wp2_with (at_builtin; refine Hid.out ?_)
        refine Lib.hid ?_
        refine wpList_append_own _ rfl _ _ 113 rfl w.heap.size 5 i0 (.int .u8 0) 1 1 undBs hi hz0 hz1 hz2 rfl (by decide) _ _ _ rfl (HO2.out.alloc _) ⟨w3.heap.size, 0, none⟩ 1 1 [.int .u8 255] rfl rfl (cells_new _ _ _) (by intro u hu; simp at hu; subst hu; rfl) (by unfold maxLen; omega) (by omega) (by simp; omega) ?_
        intro v2 w4 hown' hgrow _
        have HO3 : Hid (w4.ownsRow w.heap.size 5 1 v2 (escTs (s.data.toList.take (k + 1))).length (bytesV (escTs (s.data.toList.take (k + 1))))) := Lib.hid (by
          rw [← HE.out.1, ← HE.out.2]
          exact hown')
        have HB3 : Hid (Below w.heap.size w w4) := Lib.hid ((HB2.out.alloc hsz2 _).grown hgrow (by simp; omega) (fun k hk => HO2.out.block_ge hk))
        clear hown' hgrow
        go_wp2_with fail
        go_roundw
        case rel => exact ⟨k + 1, by omega, by go_num, HO3.out, HB3.out⟩
        case measure => simp [intOf]; omega
      · have hzn : ¬ s[k].toNat = 0 := fun e => hz (UInt8.toNat_inj.1 (by rw [e]; rfl))
        have t0 : ((s[k].toNat : Int) == 0) = false := beq_eq_false_iff_ne.2 (by omega)
        have HE : Hid (bytesV (escTs (s.data.toList.take k)) ++ [Value.int .u8 (s[k].toNat : Int)] = bytesV (escTs (s.data.toList.take (k + 1))) ∧ (escTs (s.data.toList.take k)).length + 1 = (escTs (s.data.toList.take (k + 1))).length) := Lib.hid (by
          rw [HT.out, bytesV_append, escT, if_neg hz]
          exact ⟨by simp [bytesV], by simp⟩)
        clear hz hzn
        go_wp2_with (at_builtin; refine Hid.out ?_)
        refine Lib.hid ?_
        refine wpList_append_own _ rfl _ _ 113 rfl w.heap.size 5 i0 (.int .u8 0) 1 1 undBs hi hz0 hz1 hz2 rfl (by decide) _ _ _ rfl (HO.out.alloc _) ⟨wr.heap.size, 0, none⟩ 1 1 [.int .u8 (s[k].toNat : Int)] rfl rfl (cells_new _ _ _) (by intro u hu; simp at hu; subst hu; rfl) (by unfold maxLen; omega) (by omega) (by simp; omega) ?_
        intro v' w3 hown' hgrow _
        have HO3 : Hid (w3.ownsRow w.heap.size 5 1 v' (escTs (s.data.toList.take (k + 1))).length (bytesV (escTs (s.data.toList.take (k + 1))))) := Lib.hid (by
          rw [← HE.out.1, ← HE.out.2]
          exact hown')
        have HB3 : Hid (Below w.heap.size w w3) := Lib.hid ((HB.out.alloc hsz _).grown hgrow (by simp; omega) (fun k hk => HO.out.block_ge hk))
        clear hown' hgrow
        go_wp2_with fail
        go_roundw
        case rel => exact ⟨k + 1, by omega, by go_num, HO3.out, HB3.out⟩
        case measure => simp [intOf]; omega
    · obtain rfl : k = s.size := by omega
      have hl2 := HLn.out s.size
      have htk : s.data.toList.take s.size = s.data.toList := List.take_of_length_le (by simp)
      rw [htk] at HO hl2
      have HE : Hid (bytesV (escTs s.data.toList) ++ [Value.int .u8 0, Value.int .u8 1] = bytesV (textL s.data.toList)) := Lib.hid (by
        unfold textL
        rw [bytesV_append]
        rfl)
      clear hlt hk htk
      go_wp2_with (at_builtin; refine Hid.out ?_)
      refine Lib.hid ?_
      refine wpList_append_own _ rfl _ _ 113 rfl w.heap.size 5 i0 (.int .u8 0) 1 1 undBs hi hz0 hz1 hz2 rfl (by decide) _ _ _ rfl (HO.out.alloc _) ⟨wr.heap.size, 0, none⟩ 2 2 [.int .u8 0, .int .u8 1] rfl rfl (cells_new _ _ _) (by intro u hu; simp at hu; rcases hu with rfl | rfl <;> rfl) (by unfold maxLen; omega) (by omega) (by simp; omega) ?_
      intro v' w3 hown' hgrow _
      have HO3 : Hid (w3.ownsRow w.heap.size 5 1 v' ((escTs s.data.toList).length + 2) (bytesV (textL s.data.toList))) := Lib.hid (by
        rw [← HE.out]
        exact hown')
      have HB3 : Hid (Below w.heap.size w w3) := Lib.hid ((HB.out.alloc hsz _).grown hgrow (by simp; omega) (fun k hk => HO.out.block_ge hk))
      clear hown' hgrow
      go_wp2_with (refine wpList_string_own rfl 113 9 5 _ rfl undBs undB undS _ rfl w.heap.size _ (textL s.data.toList) HO3.out ?_)
      go_wp2_with fail
      go_ret
      exact ⟨rfl, HB3.out⟩
end Go.Proofs.YtjbjpkhibcnenaaGreatDoor
/- append to a slice of the call's own, as one step of a region that draws its order. -/
namespace Go.Proofs.YtjbjpkhibcnenaaGreatDoor
open Go.RowKit
theorem step_append_own {P : Program} {ops : Array Oper} {o : Oper} {a : Act} {w : World} {K : Act → World → Prop} {Q : Exit → Act → World → Prop} {E : Prop}
    (hg : o.guard = none) (s x : Operand) (t : TypeId)
    (ho : o.op = .call { callee := .builtin .append, args := #[s, x], argTypes := #[t, t] })
    (base : Nat) (e : TypeId) (i : TypeInfo) (z : Value) (size bytes : Nat) (ht : P.underlying t = some (.slice e)) (hi : P.info? e = some i) (hz : i.zero = some z)
    (hsize : i.size = size) (hby : i.bytes = bytes) (hzs : z.cells.size = size) (hsz : 0 < size)
    (v : Value) (n : Nat) (xs : List Value) (hs : a.eval s = v) (hown : w.ownsRow base e size v n xs)
    (ad : Addr) (m c : Nat) (news : List Value) (hx : a.eval x = .slice (some ad) m c) (hl : news.length = m * size) (hnews : ∀ j u, news[j]? = some u → w.cell? (ad.add j) = some u) (h1 : ∀ u ∈ news, u.oneCell' = true)
    (h63 : n + m ≤ maxLen) (hbytes : (n + m) * bytes ≤ 140737488355328) (hbase : base ≤ w.heap.size)
    (h : ∀ v' w', w'.ownsRow base e size v' (n + m) (xs ++ news) → w.grownBy w' v.ownBlock → (v' = .slice none 0 0 ↔ v = .slice none 0 0 ∧ m = 0) → K (a.put o.dst v') w') :
    if Region.wanted o (yielded ops a.tmps) = true then Oper.wp P o a w K Q else E := by
  have hw : Region.wanted o (yielded ops a.tmps) = true := by simp [Region.wanted, hg]
  rw [if_pos hw]
  exact wp_append_own _ s x t ho base e i z size bytes ht hi hz hsize hby hzs hsz v n xs hs hown ad m c news hx hl hnews h1 h63 hbytes hbase h
end Go.Proofs.YtjbjpkhibcnenaaGreatDoor
/- The reference's right, g and word. -/
namespace Go.Proofs.YtjbjpkhibcnenaaGreatDoor
open Go.RowKit
theorem rright_any (x n : Int) (w : World) (_h0 : 0 ≤ x) (_h1 : x ≤ 4294967295) (h2 : 1 ≤ n) (h3 : n ≤ 31) :
    Calls Tryz.prog 169 #[.int .u32 x, .int .u32 n] w fun e w' => e = .returned (.int .u32 (rotr x n)) ∧ w' = w := by
  go_enter Tryz.func169, Tryz.ntmps169
  go_wp2_with fail
  go_ret
  exact ⟨rfl, rfl⟩
/-- a block whose first sixteen cells are words: those at a, b, c, d are given, the others are those of vs -/
structure VR (w0 : World) (g : Nat) (vs : List Int) (a b c d : Nat) (va vb vc vd : Int) (w : World) : Prop where
  blk : ∃ cur : Array Value, w.heap[g]? = some (.cells cur 148 (0, 0)) ∧ cur[a]? = some (.int .u32 va) ∧ cur[b]? = some (.int .u32 vb) ∧ cur[c]? = some (.int .u32 vc) ∧ cur[d]? = some (.int .u32 vd) ∧
    ∀ j, j < 16 → j ≠ a → j ≠ b → j ≠ c → j ≠ d → cur[j]? = some (.int .u32 (vs[j]?.getD 0))
  grown : w0.grownBy w (some g)
  size : w.heap.size = w0.heap.size
theorem VR.drew {w0 w : World} {g : Nat} {vs : List Int} {a b c d : Nat} {va vb vc vd : Int} (h : VR w0 g vs a b c d va vb vc vd w) : VR w0 g vs a b c d va vb vc vd w.drew := ⟨h.blk, ⟨h.grown.os, h.grown.tape, h.grown.output, h.grown.size, h.grown.block⟩, h.size⟩
theorem VR.free {w0 w : World} {g : Nat} {vs : List Int} {a b c d : Nat} {va vb vc vd : Int} (h : VR w0 g vs a b c d va vb vc vd w) (j : Nat) : w.frozen? ⟨g, j, none⟩ = false := by
  obtain ⟨cur, hh, _⟩ := h.blk
  exact frozen_of_row _ _ _ _ _ hh
theorem VR.ca {w0 w : World} {g : Nat} {vs : List Int} {a b c d : Nat} {va vb vc vd : Int} (h : VR w0 g vs a b c d va vb vc vd w) : w.cell? ⟨g, a, none⟩ = some (.int .u32 va) := by
  obtain ⟨cur, hh, ha, hb, hc, hd, _⟩ := h.blk
  rw [cell_of_row _ _ _ _ _ _ hh]
  exact ha
theorem VR.cb {w0 w : World} {g : Nat} {vs : List Int} {a b c d : Nat} {va vb vc vd : Int} (h : VR w0 g vs a b c d va vb vc vd w) : w.cell? ⟨g, b, none⟩ = some (.int .u32 vb) := by
  obtain ⟨cur, hh, ha, hb, hc, hd, _⟩ := h.blk
  rw [cell_of_row _ _ _ _ _ _ hh]
  exact hb
theorem VR.cc {w0 w : World} {g : Nat} {vs : List Int} {a b c d : Nat} {va vb vc vd : Int} (h : VR w0 g vs a b c d va vb vc vd w) : w.cell? ⟨g, c, none⟩ = some (.int .u32 vc) := by
  obtain ⟨cur, hh, ha, hb, hc, hd, _⟩ := h.blk
  rw [cell_of_row _ _ _ _ _ _ hh]
  exact hc
theorem VR.cd {w0 w : World} {g : Nat} {vs : List Int} {a b c d : Nat} {va vb vc vd : Int} (h : VR w0 g vs a b c d va vb vc vd w) : w.cell? ⟨g, d, none⟩ = some (.int .u32 vd) := by
  obtain ⟨cur, hh, ha, hb, hc, hd, _⟩ := h.blk
  rw [cell_of_row _ _ _ _ _ _ hh]
  exact hd
theorem grown_setCell {w0 w : World} {g : Nat} (h : w0.grownBy w (some g)) (j : Nat) (v : Value) : w0.grownBy (w.setCell ⟨g, j, none⟩ v) (some g) :=
  have hB : Below g w (w.setCell ⟨g, j, none⟩ v) := (Below.refl g w).setCell (Nat.le_refl _) v
  ⟨hB.os.trans h.os, hB.tape.trans h.tape, hB.output.trans h.output, by simpa using h.size, fun k hk he => by
    rw [heap_setCell_other _ _ _ _ (fun e => he (by rw [e]))]
    exact h.block k hk he⟩
theorem mixF_steps {va vb vc vd x y va1 r1 vc1 r2 va2 r3 vc2 r4 : Int} (h1 : va1 = IntKind.u32.wrap (IntKind.u32.wrap (va + vb) + x)) (h2 : r1 = rotr (bits BinOp.xor IntKind.u32 vd va1) 16) (h3 : vc1 = IntKind.u32.wrap (vc + r1))
    (h4 : r2 = rotr (bits BinOp.xor IntKind.u32 vb vc1) 12) (h5 : va2 = IntKind.u32.wrap (IntKind.u32.wrap (va1 + r2) + y)) (h6 : r3 = rotr (bits BinOp.xor IntKind.u32 r1 va2) 8) (h7 : vc2 = IntKind.u32.wrap (vc1 + r3))
    (h8 : r4 = rotr (bits BinOp.xor IntKind.u32 r2 vc2) 7) : mixF va vb vc vd x y = (va2, r4, vc2, r3) := by
  simp only [IntKind.wrap_u32] at h1 h3 h5 h7
  have e1 : va1 = (va + (vb + x)) % 4294967296 := by omega
  have e5 : va2 = (va + (vb + x) + (r2 + y)) % 4294967296 := by omega
  have e7 : vc2 = (vc + r1 + r3) % 4294967296 := by omega
  rw [e1] at h2
  rw [h3] at h4
  rw [e5] at h6
  rw [e7] at h8
  unfold mixF
  dsimp only
  rw [← h2, ← h4, ← h6, ← h8, e5, e7]
theorem VR.sa {w0 w : World} {g : Nat} {vs : List Int} {a b c d : Nat} {va vb vc vd : Int} (h : VR w0 g vs a b c d va vb vc vd w) (hb : a ≠ b) (hc : a ≠ c) (hd : a ≠ d) (z : Int) : VR w0 g vs a b c d z vb vc vd (w.setCell ⟨g, a, none⟩ (.int .u32 z)) := by
  obtain ⟨cur, hh, ga, gb, gc, gd, go⟩ := h.blk
  have hs : a < cur.size := (Array.getElem?_eq_some_iff.1 ga).1
  refine ⟨⟨cur.setIfInBounds a (.int .u32 z), ?_, ?_, ?_, ?_, ?_, ?_⟩, grown_setCell h.grown _ _, by simpa using h.size⟩
  · rw [setCell_eq_setRow _ _ _ _ _ _ _ hh]
    exact setRow_heap _ _ _ _ _ _ hh
  · rw [Array.getElem?_setIfInBounds, if_pos rfl, if_pos hs]
  · rw [Array.getElem?_setIfInBounds, if_neg hb]; exact gb
  · rw [Array.getElem?_setIfInBounds, if_neg hc]; exact gc
  · rw [Array.getElem?_setIfInBounds, if_neg hd]; exact gd
  · intro j hj na nb nc nd
    rw [Array.getElem?_setIfInBounds, if_neg (Ne.symm na)]
    exact go j hj na nb nc nd
theorem VR.sb {w0 w : World} {g : Nat} {vs : List Int} {a b c d : Nat} {va vb vc vd : Int} (h : VR w0 g vs a b c d va vb vc vd w) (ha : b ≠ a) (hc : b ≠ c) (hd : b ≠ d) (z : Int) : VR w0 g vs a b c d va z vc vd (w.setCell ⟨g, b, none⟩ (.int .u32 z)) := by
  obtain ⟨cur, hh, ga, gb, gc, gd, go⟩ := h.blk
  have hs : b < cur.size := (Array.getElem?_eq_some_iff.1 gb).1
  refine ⟨⟨cur.setIfInBounds b (.int .u32 z), ?_, ?_, ?_, ?_, ?_, ?_⟩, grown_setCell h.grown _ _, by simpa using h.size⟩
  · rw [setCell_eq_setRow _ _ _ _ _ _ _ hh]
    exact setRow_heap _ _ _ _ _ _ hh
  · rw [Array.getElem?_setIfInBounds, if_neg ha]; exact ga
  · rw [Array.getElem?_setIfInBounds, if_pos rfl, if_pos hs]
  · rw [Array.getElem?_setIfInBounds, if_neg hc]; exact gc
  · rw [Array.getElem?_setIfInBounds, if_neg hd]; exact gd
  · intro j hj na nb nc nd
    rw [Array.getElem?_setIfInBounds, if_neg (Ne.symm nb)]
    exact go j hj na nb nc nd
theorem VR.sc {w0 w : World} {g : Nat} {vs : List Int} {a b c d : Nat} {va vb vc vd : Int} (h : VR w0 g vs a b c d va vb vc vd w) (ha : c ≠ a) (hb : c ≠ b) (hd : c ≠ d) (z : Int) : VR w0 g vs a b c d va vb z vd (w.setCell ⟨g, c, none⟩ (.int .u32 z)) := by
  obtain ⟨cur, hh, ga, gb, gc, gd, go⟩ := h.blk
  have hs : c < cur.size := (Array.getElem?_eq_some_iff.1 gc).1
  refine ⟨⟨cur.setIfInBounds c (.int .u32 z), ?_, ?_, ?_, ?_, ?_, ?_⟩, grown_setCell h.grown _ _, by simpa using h.size⟩
  · rw [setCell_eq_setRow _ _ _ _ _ _ _ hh]
    exact setRow_heap _ _ _ _ _ _ hh
  · rw [Array.getElem?_setIfInBounds, if_neg ha]; exact ga
  · rw [Array.getElem?_setIfInBounds, if_neg hb]; exact gb
  · rw [Array.getElem?_setIfInBounds, if_pos rfl, if_pos hs]
  · rw [Array.getElem?_setIfInBounds, if_neg hd]; exact gd
  · intro j hj na nb nc nd
    rw [Array.getElem?_setIfInBounds, if_neg (Ne.symm nc)]
    exact go j hj na nb nc nd
theorem VR.sd {w0 w : World} {g : Nat} {vs : List Int} {a b c d : Nat} {va vb vc vd : Int} (h : VR w0 g vs a b c d va vb vc vd w) (ha : d ≠ a) (hb : d ≠ b) (hc : d ≠ c) (z : Int) : VR w0 g vs a b c d va vb vc z (w.setCell ⟨g, d, none⟩ (.int .u32 z)) := by
  obtain ⟨cur, hh, ga, gb, gc, gd, go⟩ := h.blk
  have hs : d < cur.size := (Array.getElem?_eq_some_iff.1 gd).1
  refine ⟨⟨cur.setIfInBounds d (.int .u32 z), ?_, ?_, ?_, ?_, ?_, ?_⟩, grown_setCell h.grown _ _, by simpa using h.size⟩
  · rw [setCell_eq_setRow _ _ _ _ _ _ _ hh]
    exact setRow_heap _ _ _ _ _ _ hh
  · rw [Array.getElem?_setIfInBounds, if_neg ha]; exact ga
  · rw [Array.getElem?_setIfInBounds, if_neg hb]; exact gb
  · rw [Array.getElem?_setIfInBounds, if_neg hc]; exact gc
  · rw [Array.getElem?_setIfInBounds, if_pos rfl, if_pos hs]
  · intro j hj na nb nc nd
    rw [Array.getElem?_setIfInBounds, if_neg (Ne.symm nd)]
    exact go j hj na nb nc nd
set_option maxRecDepth 100000 in
set_option maxHeartbeats 2000000 in
theorem rg_any (vs : List Int) (g cap : Nat) (a b c d x y : Int) (w : World) (hv : ∃ cur : Array Value, w.heap[g]? = some (.cells cur 148 (0, 0)) ∧ ∀ j, j < 16 → cur[j]? = some (.int .u32 (vs[j]?.getD 0))) (hb : W32 vs)
    (ha0 : 0 ≤ a) (ha : a < 16) (hb0 : 0 ≤ b) (hb1 : b < 16) (hc0 : 0 ≤ c) (hc : c < 16) (hd0 : 0 ≤ d) (hd : d < 16)
    (hab : a.toNat ≠ b.toNat) (hac : a.toNat ≠ c.toNat) (had : a.toNat ≠ d.toNat) (hbc : b.toNat ≠ c.toNat) (hbd : b.toNat ≠ d.toNat) (hcd : c.toNat ≠ d.toNat)
    (_hx0 : 0 ≤ x) (_hx1 : x ≤ 4294967295) (_hy0 : 0 ≤ y) (_hy1 : y ≤ 4294967295) :
    Calls Tryz.prog 159 #[.slice (some ⟨g, 0, none⟩) 16 cap, .int .i64 a, .int .i64 b, .int .i64 c, .int .i64 d, .int .u32 x, .int .u32 y] w fun e w' =>
      e = .returned (.tuple #[]) ∧ VR w g vs a.toNat b.toNat c.toNat d.toNat (mixF (vs[a.toNat]?.getD 0) (vs[b.toNat]?.getD 0) (vs[c.toNat]?.getD 0) (vs[d.toNat]?.getD 0) x y).1 (mixF (vs[a.toNat]?.getD 0) (vs[b.toNat]?.getD 0) (vs[c.toNat]?.getD 0) (vs[d.toNat]?.getD 0) x y).2.1 (mixF (vs[a.toNat]?.getD 0) (vs[b.toNat]?.getD 0) (vs[c.toNat]?.getD 0) (vs[d.toNat]?.getD 0) x y).2.2.1 (mixF (vs[a.toNat]?.getD 0) (vs[b.toNat]?.getD 0) (vs[c.toNat]?.getD 0) (vs[d.toNat]?.getD 0) x y).2.2.2 w' := by
  have H0 : Hid (VR w g vs a.toNat b.toNat c.toNat d.toNat (vs[a.toNat]?.getD 0) (vs[b.toNat]?.getD 0) (vs[c.toNat]?.getD 0) (vs[d.toNat]?.getD 0) w) := by
    obtain ⟨cur, hh, hcur⟩ := hv
    exact ⟨⟨cur, hh, hcur _ (by omega), hcur _ (by omega), hcur _ (by omega), hcur _ (by omega), fun j hj _ _ _ _ => hcur j hj⟩, ⟨rfl, rfl, rfl, Nat.le_refl _, fun _ _ _ => rfl⟩, rfl⟩
  clear hv
  obtain ⟨p1, p2⟩ := hb a.toNat
  obtain ⟨p3, p4⟩ := hb b.toNat
  obtain ⟨p5, p6⟩ := hb c.toNat
  obtain ⟨p7, p8⟩ := hb d.toNat
  have N : Hid (a.toNat ≠ b.toNat ∧ a.toNat ≠ c.toNat ∧ a.toNat ≠ d.toNat ∧ b.toNat ≠ c.toNat ∧ b.toNat ≠ d.toNat ∧ c.toNat ≠ d.toNat) := ⟨hab, hac, had, hbc, hbd, hcd⟩
  clear hab hac had hbc hbd hcd hb
  generalize vs[a.toNat]?.getD 0 = va0 at *
  generalize vs[b.toNat]?.getD 0 = vb0 at *
  generalize vs[c.toNat]?.getD 0 = vc0 at *
  generalize vs[d.toNat]?.getD 0 = vd0 at *
  go_enter Tryz.func159, Tryz.ntmps159
  go_wp2_with fail
  have H0d := Lib.hid H0.out.drew
  have f0a := H0d.out.ca
  have f0b := H0d.out.cb
  have f0c := H0d.out.free a.toNat
  clear H0
  go_still_tail 14, (by kernel_rfl)
  change wpList _ _ _ _ _ w.drew
  generalize w.drew = u0 at *
  generalize e0 : IntKind.u32.wrap (IntKind.u32.wrap (va0 + vb0) + x) = va1
  have E0 := Lib.hid e0
  clear e0
  have H1 := Lib.hid (H0d.out.sa N.out.1 N.out.2.1 N.out.2.2.1 va1)
  go_wp2_with fail
  clear f0a f0b f0c H0d
  generalize u0.setCell ⟨g, a.toNat, none⟩ (.int .u32 va1) = w1 at *
  have H1d := Lib.hid H1.out.drew
  have f1a := H1d.out.cd
  have f1b := H1d.out.ca
  have f1c := H1d.out.free d.toNat
  clear H1
  go_still_tail 13, (by kernel_rfl)
  still_call (rright_any _ _ _ (bits_lo_u32 _ _ _) (bits_hi_u32 _ _ _) (by omega) (by omega))
  repeat still_step
  refine wpStill_nil ?_
  change wpList _ _ _ _ _ w1.drew
  generalize w1.drew = u1 at *
  generalize e1 : rotr (bits BinOp.xor IntKind.u32 vd0 va1) 16 = r1
  have E1 := Lib.hid e1
  clear e1
  have H2 := Lib.hid (H1d.out.sd (Ne.symm N.out.2.2.1) (Ne.symm N.out.2.2.2.2.1) (Ne.symm N.out.2.2.2.2.2) r1)
  go_wp2_with fail
  clear f1a f1b f1c H1d
  generalize u1.setCell ⟨g, d.toNat, none⟩ (.int .u32 r1) = w2 at *
  have H2d := Lib.hid H2.out.drew
  have f2a := H2d.out.cc
  have f2b := H2d.out.cd
  have f2c := H2d.out.free c.toNat
  clear H2
  go_still_tail 12, (by kernel_rfl)
  change wpList _ _ _ _ _ w2.drew
  generalize w2.drew = u2 at *
  generalize e2 : IntKind.u32.wrap (vc0 + r1) = vc1
  have E2 := Lib.hid e2
  clear e2
  have H3 := Lib.hid (H2d.out.sc (Ne.symm N.out.2.1) (Ne.symm N.out.2.2.2.1) N.out.2.2.2.2.2 vc1)
  go_wp2_with fail
  clear f2a f2b f2c H2d
  generalize u2.setCell ⟨g, c.toNat, none⟩ (.int .u32 vc1) = w3 at *
  have H3d := Lib.hid H3.out.drew
  have f3a := H3d.out.cb
  have f3b := H3d.out.cc
  have f3c := H3d.out.free b.toNat
  clear H3
  go_still_tail 13, (by kernel_rfl)
  still_call (rright_any _ _ _ (bits_lo_u32 _ _ _) (bits_hi_u32 _ _ _) (by omega) (by omega))
  repeat still_step
  refine wpStill_nil ?_
  change wpList _ _ _ _ _ w3.drew
  generalize w3.drew = u3 at *
  generalize e3 : rotr (bits BinOp.xor IntKind.u32 vb0 vc1) 12 = r2
  have E3 := Lib.hid e3
  clear e3
  have H4 := Lib.hid (H3d.out.sb (Ne.symm N.out.1) N.out.2.2.2.1 N.out.2.2.2.2.1 r2)
  go_wp2_with fail
  clear f3a f3b f3c H3d
  generalize u3.setCell ⟨g, b.toNat, none⟩ (.int .u32 r2) = w4 at *
  have H4d := Lib.hid H4.out.drew
  have f4a := H4d.out.ca
  have f4b := H4d.out.cb
  have f4c := H4d.out.free a.toNat
  clear H4
  go_still_tail 14, (by kernel_rfl)
  change wpList _ _ _ _ _ w4.drew
  generalize w4.drew = u4 at *
  generalize e4 : IntKind.u32.wrap (IntKind.u32.wrap (va1 + r2) + y) = va2
  have E4 := Lib.hid e4
  clear e4
  have H5 := Lib.hid (H4d.out.sa N.out.1 N.out.2.1 N.out.2.2.1 va2)
  go_wp2_with fail
  clear f4a f4b f4c H4d
  generalize u4.setCell ⟨g, a.toNat, none⟩ (.int .u32 va2) = w5 at *
  have H5d := Lib.hid H5.out.drew
  have f5a := H5d.out.cd
  have f5b := H5d.out.ca
  have f5c := H5d.out.free d.toNat
  clear H5
  go_still_tail 13, (by kernel_rfl)
  still_call (rright_any _ _ _ (bits_lo_u32 _ _ _) (bits_hi_u32 _ _ _) (by omega) (by omega))
  repeat still_step
  refine wpStill_nil ?_
  change wpList _ _ _ _ _ w5.drew
  generalize w5.drew = u5 at *
  generalize e5 : rotr (bits BinOp.xor IntKind.u32 r1 va2) 8 = r3
  have E5 := Lib.hid e5
  clear e5
  have H6 := Lib.hid (H5d.out.sd (Ne.symm N.out.2.2.1) (Ne.symm N.out.2.2.2.2.1) (Ne.symm N.out.2.2.2.2.2) r3)
  go_wp2_with fail
  clear f5a f5b f5c H5d
  generalize u5.setCell ⟨g, d.toNat, none⟩ (.int .u32 r3) = w6 at *
  have H6d := Lib.hid H6.out.drew
  have f6a := H6d.out.cc
  have f6b := H6d.out.cd
  have f6c := H6d.out.free c.toNat
  clear H6
  go_still_tail 12, (by kernel_rfl)
  change wpList _ _ _ _ _ w6.drew
  generalize w6.drew = u6 at *
  generalize e6 : IntKind.u32.wrap (vc1 + r3) = vc2
  have E6 := Lib.hid e6
  clear e6
  have H7 := Lib.hid (H6d.out.sc (Ne.symm N.out.2.1) (Ne.symm N.out.2.2.2.1) N.out.2.2.2.2.2 vc2)
  go_wp2_with fail
  clear f6a f6b f6c H6d
  generalize u6.setCell ⟨g, c.toNat, none⟩ (.int .u32 vc2) = w7 at *
  have H7d := Lib.hid H7.out.drew
  have f7a := H7d.out.cb
  have f7b := H7d.out.cc
  have f7c := H7d.out.free b.toNat
  clear H7
  go_still_tail 13, (by kernel_rfl)
  still_call (rright_any _ _ _ (bits_lo_u32 _ _ _) (bits_hi_u32 _ _ _) (by omega) (by omega))
  repeat still_step
  refine wpStill_nil ?_
  change wpList _ _ _ _ _ w7.drew
  generalize w7.drew = u7 at *
  generalize e7 : rotr (bits BinOp.xor IntKind.u32 r2 vc2) 7 = r4
  have E7 := Lib.hid e7
  clear e7
  have H8 := Lib.hid (H7d.out.sb (Ne.symm N.out.1) N.out.2.2.2.1 N.out.2.2.2.2.1 r4)
  go_wp2_with fail
  clear f7a f7b f7c H7d
  generalize u7.setCell ⟨g, b.toNat, none⟩ (.int .u32 r4) = w8 at *
  rw [mixF_steps E0.out.symm E1.out.symm E2.out.symm E3.out.symm E4.out.symm E5.out.symm E6.out.symm E7.out.symm]
  go_end0
  exact ⟨rfl, H8.out⟩
end Go.Proofs.YtjbjpkhibcnenaaGreatDoor
/- An index into a string. -/
namespace Go.Proofs.YtjbjpkhibcnenaaGreatDoor
open Go.RowKit
theorem index_str (s : ByteArray) (i : Int) (n : Nat) (hi : i = (n : Int)) (hn : n < s.size) (w : World) : (Instr.index 9 (.string s) (.int .i64 i)).run Tryz.prog w = .ok (.int .u8 (s[n].toNat : Int)) w := by
  subst hi
  have h0 : (0 : Int) ≤ (n : Int) := Int.natCast_nonneg _
  have h : s[n]? = some s[n] := by simp [hn]
  simp [Instr.index, asIntOf, run_underlying undS, h]
end Go.Proofs.YtjbjpkhibcnenaaGreatDoor
