/- math/bits.Div64 and Rem64 divide 128 by 64 bits. -/
import Derived.BigQuiet
import Derived.Deep.QuietTactic
import Derived.WalkKit
import Derived.Laws.Bits64b
import Derived.IntWalk
import Derived.WalkSpells
import Derived.Lib.Hide
import Derived.Deep.DeepCutAuto
import Derived.Deep.CutRange
import Derived.Deep.CutBlock
import Derived.Deep.LoopGhost
import Derived.Test.YtepidpegoihllaaGreatDoorSShelf
import Derived.Test.YtepidpegoihllaaGreatDoorNDiv
namespace Go.Proofs.YtepidpegoihllaaGreatDoor
open Go.RowKit
def DivPost (hi lo y : Nat) (w : World) (e : Ending) (w' : World) : Prop :=
  e = .returned (.tuple #[.int .u64 ((hi * 18446744073709551616 + lo) / y : Nat), .int .u64 ((hi * 18446744073709551616 + lo) % y : Nat)]) ∧ ∃ n, w' = w.drewN n
set_option maxRecDepth 100000 in
set_option maxHeartbeats 4000000 in
theorem div64_zero (lo y : Nat) (w : World) (hy : 0 < y) (hy2 : y < 18446744073709551616) (hlo : lo < 18446744073709551616) :
    Calls Tryz.prog 94 #[.int .u64 (0 : Nat), .int .u64 lo, .int .u64 y] w (DivPost 0 lo y w) := by
  have t1 : ((y : Int) == 0) = false := by rw [beq_eq_false_iff_ne]; omega
  have t2 : ¬ (y : Int) ≤ ((0 : Nat) : Int) := by omega
  have t3 : ¬ (y : Int) ≤ 0 := by omega
  have t4 : ((y : Int) ≤ ((0 : Nat) : Int)) = False := by simpa using t2
  have q1 : IntKind.u64.wrap ((lo : Int) / (y : Int)) = ((lo / y : Nat) : Int) := by
    have h := Nat.div_le_self lo y
    rw [← Int.natCast_ediv]
    generalize lo / y = d at *
    exact IntWalk.u64_in _ (by omega)
  have q2 : (lo : Int) % (y : Int) = ((lo % y : Nat) : Int) := (Int.natCast_emod lo y).symm
  go_enter Tryz.func94, Tryz.ntmps94
  go_wp2_with fail
  go_quiet (fail)
  go_wp2_with fail
  go_ret2
  refine ⟨?_, nq, rfl⟩
  rw [Nat.zero_mul, Nat.zero_add]
  rfl
theorem bitLenAux_spec : ∀ (f x : Nat), 0 < x → x < 2 ^ f → 1 ≤ Lib.bitLenAux f x ∧ Lib.bitLenAux f x ≤ f ∧ 2 ^ (Lib.bitLenAux f x - 1) ≤ x ∧ x < 2 ^ Lib.bitLenAux f x
  | 0, x, h0, h => by rw [Nat.pow_zero] at h; omega
  | f + 1, x, h0, h => by
    simp only [Lib.bitLenAux]
    rw [if_neg (by omega)]
    by_cases h1 : x / 2 = 0
    · have e : Lib.bitLenAux f (x / 2) = 0 := by rw [h1]; cases f <;> rfl
      rw [e]
      have : x = 1 := by omega
      subst this
      refine ⟨by omega, by omega, by decide, by decide⟩
    · have ih := bitLenAux_spec f (x / 2) (by omega) (by rw [Nat.pow_succ] at h; omega)
      generalize Lib.bitLenAux f (x / 2) = b at *
      obtain ⟨c, rfl⟩ : ∃ c, b = c + 1 := ⟨b - 1, by omega⟩
      rw [show 1 + (c + 1) = c + 1 + 1 by omega, Nat.add_sub_cancel, Nat.pow_succ 2 (c + 1)]
      rw [Nat.add_sub_cancel] at ih
      rw [Nat.pow_succ] at ih ⊢
      omega
/-- how far a divisor is shifted -/
theorem shift_of {y : Nat} (h0 : 0 < y) (h : y < 18446744073709551616) : ∃ s : Nat, s ≤ 63 ∧ (64 - (Lib.bitLen (y : Int).toNat : Int)) = (s : Int) ∧ 9223372036854775808 ≤ y * 2 ^ s ∧ y * 2 ^ s < 18446744073709551616 := by
  have hb := bitLenAux_spec 64 y h0 h
  rw [Int.toNat_natCast]
  unfold Lib.bitLen
  generalize Lib.bitLenAux 64 y = b at *
  refine ⟨64 - b, by omega, by omega, ?_, ?_⟩
  · have := Nat.mul_le_mul_right (2 ^ (64 - b)) hb.2.2.1
    rw [← Nat.pow_add, show b - 1 + (64 - b) = 63 by omega] at this
    exact this
  · have := Nat.mul_lt_mul_of_pos_right hb.2.2.2 (show 0 < 2 ^ (64 - b) from Nat.pow_pos (by decide))
    rw [← Nat.pow_add, show b + (64 - b) = 64 by omega] at this
    exact this
theorem mask32 (n : Nat) (h : n < 18446744073709551616) : bits .and .u64 (n : Int) 4294967295 = ((n % 4294967296 : Nat) : Int) := by
  have h1 := bits_and_u64_nat n 4294967295 (by omega) (by decide)
  have e : n &&& 4294967295 = n % 4294967296 := Nat.and_two_pow_sub_one_eq_mod n 32
  rw [e] at h1
  exact h1
theorem u64_mod (n : Nat) : IntKind.u64.wrap (n : Int) = ((n % 18446744073709551616 : Nat) : Int) := by
  simp [IntKind.wrap, IntKind.signed, IntKind.bits]
theorem u64_wrap (x : Int) : IntKind.u64.wrap x = x % 18446744073709551616 := by
  simp [IntKind.wrap, IntKind.signed, IntKind.bits]
theorem rest_wrap {a b c y z : Nat} (h : a * 4294967296 + b = c * y + z) (hz : z < 18446744073709551616) :
    IntKind.u64.wrap (IntKind.u64.wrap (IntKind.u64.wrap ((a : Int) * 4294967296) + (b : Int)) - IntKind.u64.wrap ((c : Int) * (y : Int))) = (z : Int) := by
  obtain ⟨p, hp⟩ : ∃ p, p = c * y := ⟨_, rfl⟩
  have h2 : (c : Int) * (y : Int) = (p : Int) := by rw [hp, Int.natCast_mul]
  rw [← hp] at h
  rw [h2, u64_wrap, u64_wrap, u64_wrap, u64_wrap]
  omega
/-- the dividend, shifted -/
theorem shifted {hi lo y s : Nat} (hs : s ≤ 63) (hhi : hi < y) (hlo : lo < 18446744073709551616) (hY : y * 2 ^ s < 18446744073709551616) :
    (hi * 2 ^ s + lo / 2 ^ (64 - s)) < y * 2 ^ s ∧ (hi * 18446744073709551616 + lo) * 2 ^ s = (hi * 2 ^ s + lo / 2 ^ (64 - s)) * 18446744073709551616 + lo * 2 ^ s % 18446744073709551616 ∧
    hi * 2 ^ s ||| lo / 2 ^ (64 - s) = hi * 2 ^ s + lo / 2 ^ (64 - s) ∧ hi * 2 ^ s < 18446744073709551616 := by
  have e64 : 2 ^ (64 - s) * 2 ^ s = 18446744073709551616 := by rw [← Nat.pow_add, show 64 - s + s = 64 by omega]
  have hp : 0 < 2 ^ (64 - s) := Nat.pow_pos (by decide)
  have hl : lo / 2 ^ (64 - s) < 2 ^ s := by
    rw [Nat.div_lt_iff_lt_mul hp, Nat.mul_comm, e64]
    exact hlo
  have h1 : hi * 2 ^ s + 2 ^ s ≤ y * 2 ^ s := by rw [← Nat.succ_mul]; exact Nat.mul_le_mul_right _ hhi
  refine ⟨Nat.lt_of_lt_of_le (Nat.add_lt_add_left hl _) h1, ?_, ?_, Nat.lt_of_le_of_lt (Nat.le_trans (Nat.le_add_right _ _) h1) hY⟩
  · have h2 : lo * 2 ^ s = lo / 2 ^ (64 - s) * 18446744073709551616 + lo % 2 ^ (64 - s) * 2 ^ s := by
      conv => lhs; rw [← Nat.div_add_mod lo (2 ^ (64 - s)), Nat.add_mul]
      rw [Nat.mul_comm (2 ^ (64 - s)), Nat.mul_assoc, e64]
    have h3 : lo % 2 ^ (64 - s) * 2 ^ s < 18446744073709551616 := by
      rw [← e64]
      exact Nat.mul_lt_mul_of_pos_right (Nat.mod_lt _ hp) (Nat.pow_pos (by decide))
    have h4 : lo * 2 ^ s % 18446744073709551616 = lo % 2 ^ (64 - s) * 2 ^ s := by
      rw [h2, Nat.add_comm, Nat.add_mul_mod_self_right, Nat.mod_eq_of_lt h3]
    rw [h4, Nat.add_mul, Nat.add_mul, h2, Nat.mul_assoc, Nat.mul_assoc, Nat.mul_comm 18446744073709551616 (2 ^ s)]
    omega
  · rw [Nat.mul_comm hi, ← Nat.two_pow_add_eq_or_of_lt hl]
set_option maxRecDepth 100000 in
set_option maxHeartbeats 4000000 in
theorem div64_pos (hi lo y : Nat) (w : World) (h0 : 0 < hi) (hhi : hi < y) (hy2 : y < 18446744073709551616) (hlo : lo < 18446744073709551616) :
    Calls Tryz.prog 94 #[.int .u64 hi, .int .u64 lo, .int .u64 y] w (DivPost hi lo y w) := by
  have t1 : ((y : Int) == 0) = false := by rw [beq_eq_false_iff_ne]; omega
  have t2 : ¬ (y : Int) ≤ (hi : Int) := by omega
  have t3 : ((hi : Int) == 0) = false := by rw [beq_eq_false_iff_ne]; omega
  go_enter Tryz.func94, Tryz.ntmps94
  go_wp2_with fail
  refine (Tryz.bits_LeadingZeros64 (y : Int) _ (by omega) (by omega)).mono ?_
  rintro e w' ⟨rfl, rfl⟩
  obtain ⟨s, hs, hse, hY1, hY2⟩ := shift_of (y := y) (by omega) hy2
  rw [hse]
  clear hse
  go_upto_region 9 with fail
  obtain ⟨Y, hY⟩ : ∃ Y : Nat, Y = y * 2 ^ s := ⟨_, rfl⟩
  have FY : IntKind.u64.wrap ((y : Int) * 2 ^ s) = (Y : Int) := by
    have e : (y : Int) * 2 ^ s = (Y : Int) := by rw [hY, Int.natCast_mul, Int.natCast_pow]; rfl
    rw [e]
    exact IntWalk.u64_in _ (by omega)
  rw [FY]
  have HY := Lib.hid hY
  rw [← hY] at hY1 hY2
  clear hY FY
  go_upto_region 11 with fail
  rw [mask32 Y hY2]
  have FS := Lib.hid (shifted (lo := lo) hs hhi hlo (by rw [← HY.out]; exact hY2))
  obtain ⟨U, hU⟩ : ∃ U : Nat, U = hi * 2 ^ s + lo / 2 ^ (64 - s) := ⟨_, rfl⟩
  obtain ⟨V, hV⟩ : ∃ V : Nat, V = lo * 2 ^ s % 18446744073709551616 := ⟨_, rfl⟩
  have FU : bits .or .u64 (IntKind.u64.wrap ((hi : Int) * 2 ^ s)) ((lo : Int) / 2 ^ (64 - s)) = (U : Int) := by
    have e : (hi : Int) * 2 ^ s = ((hi * 2 ^ s : Nat) : Int) := by rw [Int.natCast_mul, Int.natCast_pow]; rfl
    have e2 : (lo : Int) / 2 ^ (64 - s) = ((lo / 2 ^ (64 - s) : Nat) : Int) := by rw [Int.natCast_ediv, Int.natCast_pow]; rfl
    have h4 := FS.out.2.2.2
    have h5 := Nat.div_le_self lo (2 ^ (64 - s))
    have h6 := FS.out.2.2.1
    rw [e, e2, hU, ← h6]
    generalize hi * 2 ^ s = A at *
    generalize lo / 2 ^ (64 - s) = C at *
    rw [IntWalk.u64_in _ (by omega)]
    exact bits_or_u64_nat _ _ h4 (by omega)
  have FV : IntKind.u64.wrap ((lo : Int) * 2 ^ s) = (V : Int) := by
    have e : (lo : Int) * 2 ^ s = ((lo * 2 ^ s : Nat) : Int) := by rw [Int.natCast_mul, Int.natCast_pow]; rfl
    rw [e, hV]
    exact u64_mod _
  have HU := Lib.hid hU
  have HV := Lib.hid hV
  have hUY : U < Y := by rw [hU, HY.out]; exact FS.out.1
  have hVb : V < 18446744073709551616 := by rw [hV]; exact Nat.mod_lt _ (by decide)
  have HE : Hid ((hi * 18446744073709551616 + lo) * 2 ^ s = U * 18446744073709551616 + V) := Lib.hid (by rw [hU, hV]; exact FS.out.2.1)
  clear hU hV
  go_upto_region 12 with fail
  go_upto_region 13 with fail
  go_upto_region 15 with fail
  rw [mask32 V hVb]
  clear FU FV
  have e1 : (Y : Int) / 4294967296 = ((Y / 4294967296 : Nat) : Int) := by omega
  have e2 : (V : Int) / 4294967296 = ((V / 4294967296 : Nat) : Int) := by omega
  rw [e1, e2]
  clear e1 e2
  obtain ⟨y1, hy1⟩ : ∃ y1, y1 = Y / 4294967296 := ⟨_, rfl⟩
  obtain ⟨y0, hy0⟩ : ∃ y0, y0 = Y % 4294967296 := ⟨_, rfl⟩
  obtain ⟨u1, hu1⟩ : ∃ u1, u1 = V / 4294967296 := ⟨_, rfl⟩
  obtain ⟨u0, hu0⟩ : ∃ u0, u0 = V % 4294967296 := ⟨_, rfl⟩
  rw [← hy1, ← hy0, ← hu1, ← hu0]
  have HYe : Hid (Y = y1 * 4294967296 + y0) := Lib.hid (by omega)
  have HVe : Hid (V = u1 * 4294967296 + u0) := Lib.hid (by omega)
  have by1 : 2147483648 ≤ y1 ∧ y1 < 4294967296 := by omega
  have by0 : y0 < 4294967296 := by omega
  have bu1 : u1 < 4294967296 := by omega
  have bu0 : u0 < 4294967296 := by omega
  have hD := dinv_start (B := 4294967296) (u := U) (y1 := y1) (y0 := y0) (u1 := u1) (by omega) by0 (by rw [← HYe.out]; exact hUY) bu1
  have hUb : U < 18446744073709551616 := by omega
  clear hy1 hy0 hu1 hu0
  obtain ⟨q, hq⟩ : ∃ q, q = U / y1 := ⟨_, rfl⟩
  obtain ⟨r, hr⟩ : ∃ r, r = U % y1 := ⟨_, rfl⟩
  obtain ⟨p, hp⟩ : ∃ p, p = q * y1 := ⟨_, rfl⟩
  have hpu : U = p + r := by rw [hp, hq, hr, Nat.mul_comm]; exact (Nat.div_add_mod U y1).symm
  have hrb : r < 4294967296 := by rw [hr]; exact Nat.lt_trans (Nat.mod_lt _ (by omega)) by1.2
  rw [← hq, ← hr] at hD
  have hqb := hD.top
  have F1 : (U : Int) / (y1 : Int) = (q : Int) := by rw [hq]; exact (Int.natCast_ediv U y1).symm
  have F2 : IntKind.u64.wrap (q : Int) = (q : Int) := IntWalk.u64_in _ (by omega)
  have F3 : IntKind.u64.wrap ((q : Int) * (y1 : Int)) = (p : Int) := by
    rw [hp, Int.natCast_mul]
    refine IntWalk.u64_in _ ?_
    rw [← Int.natCast_mul, ← hp]
    omega
  have F4 : (U : Int) - (p : Int) = (r : Int) := by omega
  have HD := Lib.hid hD
  have HPU := Lib.hid hpu
  clear hD hq hr hp hpu
  go_upto_block 0 with fail
  obtain ⟨d, hd⟩ : ∃ d, d = (U * 4294967296 + u1) / (y1 * 4294967296 + y0) := ⟨_, rfl⟩
  have Hd := Lib.hid hd
  have HYb : Hid (U < y1 * 4294967296 + y0) := Lib.hid (by rw [← HYe.out]; exact hUY)
  clear hd F1 F2 F3 F4
  go_cut [15] (fun v wx => v = .int .u64 d ∧ wx = w')
  case first =>
    go_wp2_with fail
    go_loopg [15, 16] 4294967300 (fun m qv rv wr => ∃ q r : Nat, q ≤ m ∧ qv = .int .u64 q ∧ rv = .int .u64 r ∧ DInv 4294967296 U y1 y0 u1 q r ∧ r < 4294967296 ∧ wr = w')
    case atStart => exact ⟨q, r, by omega, rfl, rfl, HD.out, hrb, rfl⟩
    case round =>
      obtain ⟨q, r, hqm, rfl, rfl, hI0, hrb2, rfl⟩ := hrel
      have hI := Lib.hid hI0
      have htop := hI0.top
      clear hI0
      obtain ⟨m, hm⟩ : ∃ m, m = q * y0 := ⟨_, rfl⟩
      have HM := Lib.hid hm
      have hmb : r * 4294967296 + u1 < q * y0 ↔ 4294967296 * r + u1 < m := by rw [hm, Nat.mul_comm r]
      by_cases hq : 4294967296 ≤ q
      · have T1 : decide ((4294967296 : Int) ≤ (q : Int)) = true := decide_eq_true (by omega)
        clear hm hmb
        obtain ⟨hq1, hL⟩ := dinv_less hI.out HYb.out bu1 (Or.inl hq)
        have HL := Lib.hid hL
        have FQ : IntKind.u64.wrap ((q : Int) - 1) = ((q - 1 : Nat) : Int) := by
          rw [IntWalk.u64_in _ (by omega)]
          omega
        have HTop := Lib.hid htop
        clear hL htop
        by_cases hb : 4294967296 ≤ r + y1
        · have HDn : Hid (d = q - 1) := Lib.hid (Hd.out.trans (dinv_break HL.out (by omega) by0 (by have := HTop.out; omega) hb).symm)
          have T9 : decide ((4294967296 : Int) ≤ (r : Int) + (y1 : Int)) = true := decide_eq_true (by omega)
          clear hb hq
          go_wp2_with fail
          go_meet
          exact ⟨by rw [HDn.out], rfl⟩
        · have T9 : decide ((4294967296 : Int) ≤ (r : Int) + (y1 : Int)) = false := decide_eq_false (by omega)
          have HB9 := Lib.hid hb
          have HQ1 := Lib.hid hq1
          clear hb hq
          go_wp2_with fail
          go_roundg (q - 1)
          case measure => have := HQ1.out; omega
          case rel => exact ⟨q - 1, r + y1, Nat.le_refl _, rfl, by go_num, HL.out, by have := HB9.out; omega, rfl⟩
      · have hm64 : m < 18446744073709551616 := by
          rw [hm]
          have := Nat.mul_le_mul (show q ≤ 4294967295 by omega) (show y0 ≤ 4294967295 by omega)
          omega
        have F5 : IntKind.u64.wrap ((q : Int) * (y0 : Int)) = (m : Int) := by
          rw [hm, Int.natCast_mul]
          refine IntWalk.u64_in _ ?_
          rw [← Int.natCast_mul, ← hm]
          omega
        have T1 : decide ((4294967296 : Int) ≤ (q : Int)) = false := decide_eq_false (by omega)
        by_cases hlt : 4294967296 * r + u1 < m
        · have hlt' := hmb.2 hlt
          have HLT := Lib.hid hlt'
          have T2 : decide ((4294967296 : Int) * (r : Int) + (u1 : Int) < (m : Int)) = true := decide_eq_true (by omega)
          clear hm hmb hlt' hlt
          obtain ⟨hq1, hL⟩ := dinv_less hI.out HYb.out bu1 (Or.inr HLT.out)
          have HL := Lib.hid hL
          have FQ : IntKind.u64.wrap ((q : Int) - 1) = ((q - 1 : Nat) : Int) := by
            rw [IntWalk.u64_in _ (by omega)]
            omega
          have HTop := Lib.hid htop
          clear hL htop
          by_cases hb : 4294967296 ≤ r + y1
          · have HDn : Hid (d = q - 1) := Lib.hid (Hd.out.trans (dinv_break HL.out (by omega) by0 (by have := HTop.out; omega) hb).symm)
            have T9 : decide ((4294967296 : Int) ≤ (r : Int) + (y1 : Int)) = true := decide_eq_true (by omega)
            clear hb hq
            go_wp2_with fail
            go_meet
            exact ⟨by rw [HDn.out], rfl⟩
          · have T9 : decide ((4294967296 : Int) ≤ (r : Int) + (y1 : Int)) = false := decide_eq_false (by omega)
            have HB9 := Lib.hid hb
            have HQ1 := Lib.hid hq1
            clear hb hq
            go_wp2_with fail
            go_roundg (q - 1)
            case measure => have := HQ1.out; omega
            case rel => exact ⟨q - 1, r + y1, Nat.le_refl _, rfl, by go_num, HL.out, by have := HB9.out; omega, rfl⟩
        · have HDn : Hid (d = q) := Lib.hid (Hd.out.trans (dinv_done hI.out (by omega) (by rw [← hm]; omega)).symm)
          have T2 : decide ((4294967296 : Int) * (r : Int) + (u1 : Int) < (m : Int)) = false := decide_eq_false (by omega)
          clear hm hmb hq hlt htop
          go_wp2_with fail
          go_meet
          exact ⟨by rw [HDn.out], rfl⟩
  case rest =>
    obtain ⟨rfl, rfl⟩ := hcut
    obtain ⟨Z, hZ⟩ : ∃ Z, Z = (U * 4294967296 + u1) % (y1 * 4294967296 + y0) := ⟨_, rfl⟩
    have hzy : Z < y1 * 4294967296 + y0 := by rw [hZ]; exact Nat.mod_lt _ (by omega)
    have hdz : U * 4294967296 + u1 = d * Y + Z := by
      rw [Hd.out, hZ, HYe.out]
      exact (Nat.div_add_mod' _ _).symm
    have hZb : Z < 18446744073709551616 := by rw [← HYe.out] at hzy; omega
    have FZ := rest_wrap hdz hZb
    have HZ := Lib.hid hZ
    have HZY := Lib.hid hzy
    clear hZ hdz hzy
    go_upto_region 22 with fail
    have hD2 := dinv_start (B := 4294967296) (u := Z) (y1 := y1) (y0 := y0) (u1 := u0) (by omega) by0 HZY.out bu0
    obtain ⟨q2, hq⟩ : ∃ q, q = Z / y1 := ⟨_, rfl⟩
    obtain ⟨r2, hr⟩ : ∃ r, r = Z % y1 := ⟨_, rfl⟩
    obtain ⟨p2, hp⟩ : ∃ p, p = q2 * y1 := ⟨_, rfl⟩
    have hpu : Z = p2 + r2 := by rw [hp, hq, hr, Nat.mul_comm]; exact (Nat.div_add_mod Z y1).symm
    have hr2 : r2 < 4294967296 := by rw [hr]; exact Nat.lt_trans (Nat.mod_lt _ (by omega)) by1.2
    rw [← hq, ← hr] at hD2
    have hqb2 := hD2.top
    have F1 : (Z : Int) / (y1 : Int) = (q2 : Int) := by rw [hq]; exact (Int.natCast_ediv Z y1).symm
    have F2 : IntKind.u64.wrap (q2 : Int) = (q2 : Int) := IntWalk.u64_in _ (by omega)
    have F3 : IntKind.u64.wrap ((q2 : Int) * (y1 : Int)) = (p2 : Int) := by
      rw [hp, Int.natCast_mul]
      refine IntWalk.u64_in _ ?_
      rw [← Int.natCast_mul, ← hp]
      omega
    have F4 : (Z : Int) - (p2 : Int) = (r2 : Int) := by omega
    have HD2 := Lib.hid hD2
    clear hD2 hq hr hp hpu FZ
    go_upto_block 2 with fail
    obtain ⟨d2, hd⟩ : ∃ d, d = (Z * 4294967296 + u0) / (y1 * 4294967296 + y0) := ⟨_, rfl⟩
    have Hd2 := Lib.hid hd
    clear hd F1 F2 F3 F4
    go_cut [18] (fun v wx => v = .int .u64 d2 ∧ wx = wc)
    case first =>
      go_wp2_with fail
      go_loopg [18, 16] 4294967300 (fun m qv rv wr => ∃ q r : Nat, q ≤ m ∧ qv = .int .u64 q ∧ rv = .int .u64 r ∧ DInv 4294967296 Z y1 y0 u0 q r ∧ r < 4294967296 ∧ wr = wc)
      case atStart => exact ⟨q2, r2, by omega, rfl, rfl, HD2.out, hr2, rfl⟩
      case round =>
        obtain ⟨q, r, hqm, rfl, rfl, hI0, hrb2, rfl⟩ := hrel
        have hI := Lib.hid hI0
        have htop := hI0.top
        clear hI0
        obtain ⟨m, hm⟩ : ∃ m, m = q * y0 := ⟨_, rfl⟩
        have HM := Lib.hid hm
        have hmb : r * 4294967296 + u0 < q * y0 ↔ 4294967296 * r + u0 < m := by rw [hm, Nat.mul_comm r]
        by_cases hq : 4294967296 ≤ q
        · have T1 : decide ((4294967296 : Int) ≤ (q : Int)) = true := decide_eq_true (by omega)
          clear hm hmb
          obtain ⟨hq1, hL⟩ := dinv_less hI.out HZY.out bu0 (Or.inl hq)
          have HL := Lib.hid hL
          have FQ : IntKind.u64.wrap ((q : Int) - 1) = ((q - 1 : Nat) : Int) := by
            rw [IntWalk.u64_in _ (by omega)]
            omega
          have HTop := Lib.hid htop
          clear hL htop
          by_cases hb : 4294967296 ≤ r + y1
          · have HDn : Hid (d2 = q - 1) := Lib.hid (Hd2.out.trans (dinv_break HL.out (by omega) by0 (by have := HTop.out; omega) hb).symm)
            have T9 : decide ((4294967296 : Int) ≤ (r : Int) + (y1 : Int)) = true := decide_eq_true (by omega)
            clear hb hq
            go_wp2_with fail
            go_meet
            exact ⟨by rw [HDn.out], rfl⟩
          · have T9 : decide ((4294967296 : Int) ≤ (r : Int) + (y1 : Int)) = false := decide_eq_false (by omega)
            have HB9 := Lib.hid hb
            have HQ1 := Lib.hid hq1
            clear hb hq
            go_wp2_with fail
            go_roundg (q - 1)
            case measure => have := HQ1.out; omega
            case rel => exact ⟨q - 1, r + y1, Nat.le_refl _, rfl, by go_num, HL.out, by have := HB9.out; omega, rfl⟩
        · have hm64 : m < 18446744073709551616 := by
            rw [hm]
            have := Nat.mul_le_mul (show q ≤ 4294967295 by omega) (show y0 ≤ 4294967295 by omega)
            omega
          have F5 : IntKind.u64.wrap ((q : Int) * (y0 : Int)) = (m : Int) := by
            rw [hm, Int.natCast_mul]
            refine IntWalk.u64_in _ ?_
            rw [← Int.natCast_mul, ← hm]
            omega
          have T1 : decide ((4294967296 : Int) ≤ (q : Int)) = false := decide_eq_false (by omega)
          by_cases hlt : 4294967296 * r + u0 < m
          · have hlt' := hmb.2 hlt
            have HLT := Lib.hid hlt'
            have T2 : decide ((4294967296 : Int) * (r : Int) + (u0 : Int) < (m : Int)) = true := decide_eq_true (by omega)
            clear hm hmb hlt' hlt
            obtain ⟨hq1, hL⟩ := dinv_less hI.out HZY.out bu0 (Or.inr HLT.out)
            have HL := Lib.hid hL
            have FQ : IntKind.u64.wrap ((q : Int) - 1) = ((q - 1 : Nat) : Int) := by
              rw [IntWalk.u64_in _ (by omega)]
              omega
            have HTop := Lib.hid htop
            clear hL htop
            by_cases hb : 4294967296 ≤ r + y1
            · have HDn : Hid (d2 = q - 1) := Lib.hid (Hd2.out.trans (dinv_break HL.out (by omega) by0 (by have := HTop.out; omega) hb).symm)
              have T9 : decide ((4294967296 : Int) ≤ (r : Int) + (y1 : Int)) = true := decide_eq_true (by omega)
              clear hb hq
              go_wp2_with fail
              go_meet
              exact ⟨by rw [HDn.out], rfl⟩
            · have T9 : decide ((4294967296 : Int) ≤ (r : Int) + (y1 : Int)) = false := decide_eq_false (by omega)
              have HB9 := Lib.hid hb
              have HQ1 := Lib.hid hq1
              clear hb hq
              go_wp2_with fail
              go_roundg (q - 1)
              case measure => have := HQ1.out; omega
              case rel => exact ⟨q - 1, r + y1, Nat.le_refl _, rfl, by go_num, HL.out, by have := HB9.out; omega, rfl⟩
          · have HDn : Hid (d2 = q) := Lib.hid (Hd2.out.trans (dinv_done hI.out (by omega) (by rw [← hm]; omega)).symm)
            have T2 : decide ((4294967296 : Int) * (r : Int) + (u0 : Int) < (m : Int)) = false := decide_eq_false (by omega)
            clear hm hmb hq hlt htop
            go_wp2_with fail
            go_meet
            exact ⟨by rw [HDn.out], rfl⟩
    case rest =>
      obtain ⟨rfl, rfl⟩ := hcut
      have hdb : d < 4294967296 := by rw [Hd.out]; exact dig_lt HYb.out bu1
      have hd2b : d2 < 4294967296 := by rw [Hd2.out]; exact dig_lt HZY.out bu0
      obtain ⟨R, hR⟩ : ∃ R, R = (Z * 4294967296 + u0) % (y1 * 4294967296 + y0) := ⟨_, rfl⟩
      have hdr : Z * 4294967296 + u0 = d2 * Y + R := by
        rw [Hd2.out, hR, HYe.out]
        exact (Nat.div_add_mod' _ _).symm
      have hRb : R < 18446744073709551616 := by
        have : R < y1 * 4294967296 + y0 := by rw [hR]; exact Nat.mod_lt _ (by omega)
        rw [← HYe.out] at this
        omega
      have FR := rest_wrap hdr hRb
      have hfin := two_digits 4294967296 U (y1 * 4294967296 + y0) u1 u0 (by omega)
      rw [← HZ.out, ← Hd.out, ← Hd2.out, ← hR] at hfin
      have hn : U * (4294967296 * 4294967296) + u1 * 4294967296 + u0 = (hi * 18446744073709551616 + lo) * 2 ^ s := by
        rw [HE.out, show (4294967296 : Nat) * 4294967296 = 18446744073709551616 from rfl, Nat.add_assoc, ← HVe.out]
      have hsd := shift_div (hi * 18446744073709551616 + lo) y (2 ^ s) (Nat.pow_pos (by decide))
      rw [hn, ← HYe.out, HY.out, hsd.1, hsd.2] at hfin
      have hq : ((hi * 18446744073709551616 + lo) / y : Nat) = d * 4294967296 + d2 := hfin.1.symm
      have hr : ((hi * 18446744073709551616 + lo) % y : Nat) = R / 2 ^ s := by
        rw [hfin.2, Nat.mul_div_cancel _ (Nat.pow_pos (by decide))]
      have FR2 : (R : Int) / 2 ^ s = ((R / 2 ^ s : Nat) : Int) := by rw [Int.natCast_ediv, Int.natCast_pow]; rfl
      have HQ := Lib.hid hq
      have HR := Lib.hid hr
      clear hR hdr hfin hn hsd hq hr
      generalize R / 2 ^ s = R2 at *
      go_wp2_with fail
      go_ret2
      refine ⟨?_, 0, rfl⟩
      have e : ((d * 4294967296 + d2 : Nat) : Int) = (d : Int) * 4294967296 + (d2 : Int) := by omega
      rw [HQ.out, HR.out, e]
      rfl
/-- math/bits.Div64 -/
theorem div64_any (hi lo y : Nat) (w : World) (hhi : hi < y) (hy2 : y < 18446744073709551616) (hlo : lo < 18446744073709551616) :
    Calls Tryz.prog 94 #[.int .u64 hi, .int .u64 lo, .int .u64 y] w (DivPost hi lo y w) := by
  rcases Nat.eq_zero_or_pos hi with h | h
  · subst h
    exact div64_zero lo y w hhi hy2 hlo
  · exact div64_pos hi lo y w h hhi hy2 hlo
end Go.Proofs.YtepidpegoihllaaGreatDoor

