/- Texts merged: SShelf SDiv SGroup SExp SIn -/
import Derived.Shelf.Strings.Builder1
import Derived.Shelf.Strings.Builder2
import Derived.Shelf.Strings.OnBuilder
import Derived.Shelf.Small.Bits
import Derived.Shelf.Strings.BuilderF
import Derived.Shelf.Strings.BuilderK
import Derived.Shelf.Strings.Builder2Cap
import Derived.Shelf.LaysM
import Derived.Shelf.Bits.Mul64
import Derived.Shelf.Strings.BuilderCap
import Derived.Test.YtgjklfddoechpaaGreatDoorProg
import Derived.Test.YtgjklfddoechpaaGreatDoorNGroup
import Derived.BigQuiet
import Derived.Deep.QuietTactic
import Derived.WalkKit
import Derived.Laws.Bits64b
import Derived.IntWalk
import Derived.WalkSpells
import Derived.Lib.Hide
import Derived.Deep.DeepCutAuto
import Derived.Deep.CutRange
import Derived.Deep.CutBlock
import Derived.Deep.LoopGhost
import Derived.Outline
/- The library functions that package sign calls, by contract: strings.Join, LeadingZeros64, Mul64 (laid by the shelf of the kit, in plain words). -/
namespace Go.Proofs
open Go.Shelf
def Tryz.lays156_ren : Go.Shelf.Ren := ⟨fun | 156 => 133 | 165 => 151 | 166 => 93 | 169 => 94 | 240 => 135 | 241 => 163 | 276 => 153 | 277 => 172 | n => n, fun | 31 => 52 | 9 => 9 | 3 => 3 | 4 => 4 | 0 => 0 | 20 => 20 | 72 => 117 | 76 => 121 | 70 => 114 | 37 => 115 | 75 => 120 | 127 => 163 | 164 => 184 | 5 => 5 | 80 => 77 | n => n, fun | n => n⟩
theorem Tryz.lays156 : Go.Proofs.Lays.n156 Tryz.prog Tryz.lays156_ren := {
  mixed := by kernel_rfl
  f156 := Tryz.func133.trans (congrArg some (by kernel_rfl))
  f165 := Tryz.func151.trans (congrArg some (by kernel_rfl))
  f166 := Tryz.func93.trans (congrArg some (by kernel_rfl))
  f169 := Tryz.func94.trans (congrArg some (by kernel_rfl))
  f240 := Tryz.func135.trans (congrArg some (by kernel_rfl))
  f241 := Tryz.func163.trans (congrArg some (by kernel_rfl))
  f276 := Tryz.func153.trans (congrArg some (by kernel_rfl))
  f277 := Tryz.func172.trans (congrArg some (by kernel_rfl))
  t0 := Tryz.underlying0
  a0 := Tryz.isAgg0
  z0 := Tryz.sizeOf0
  v0 := Tryz.zeroValue0
  t3 := Tryz.underlying3
  a3 := Tryz.isAgg3
  z3 := Tryz.sizeOf3
  v3 := Tryz.zeroValue3
  t4 := Tryz.underlying4
  a4 := Tryz.isAgg4
  z4 := Tryz.sizeOf4
  v4 := Tryz.zeroValue4
  t9 := Tryz.underlying9
  a9 := Tryz.isAgg9
  z9 := Tryz.sizeOf9
  v9 := Tryz.zeroValue9
  t20 := Tryz.underlying20
  a20 := Tryz.isAgg20
  z20 := Tryz.sizeOf20
  v20 := Tryz.zeroValue20
  t31 := Tryz.underlying52
  a31 := Tryz.isAgg52
  z31 := Tryz.sizeOf52
  v31 := Tryz.zeroValue52
  t37 := Tryz.underlying115
  a37 := Tryz.isAgg115
  z37 := Tryz.sizeOf115
  v37 := Tryz.zeroValue115
  t70 := Tryz.underlying114
  a70 := Tryz.isAgg114
  z70 := Tryz.sizeOf114
  v70 := Tryz.zeroValue114
  t72 := Tryz.underlying117
  a72 := Tryz.isAgg117
  z72 := Tryz.sizeOf117
  v72 := Tryz.zeroValue117
  t75 := Tryz.underlying120
  a75 := Tryz.isAgg120
  z75 := Tryz.sizeOf120
  v75 := Tryz.zeroValue120
  t76 := Tryz.underlying121
  a76 := Tryz.isAgg121
  z76 := Tryz.sizeOf121
  v76 := Tryz.zeroValue121
  t127 := Tryz.underlying163
  a127 := Tryz.isAgg163
  z127 := Tryz.sizeOf163
  v127 := Tryz.zeroValue163
  t164 := Tryz.underlying184
  a164 := Tryz.isAgg184
  z164 := Tryz.sizeOf184
  v164 := Tryz.zeroValue184 }
theorem Tryz.Builder_Extra_156 : Builder.Extra Tryz.prog Tryz.lays156_ren := {
  sizeBuilder := by kernel_rfl
  liesBuilder := by kernel_rfl
  t5 := Tryz.underlying5
  a5 := Tryz.isAgg5
  z5 := Tryz.sizeOf5
  v5 := Tryz.zeroValue5
  infoByte := by kernel_rfl
  cellsByte := by kernel_rfl
  sizeByte := by kernel_rfl
  neB5 := by decide }
open Go.RowKit in
theorem Tryz.strings_Join_none (a : Option Addr) (c : Nat) (sep : ByteArray) (w : World) :
    Calls Tryz.prog 133 #[.slice a 0 c, .string sep] w fun e w' => e = .returned (.string ⟨#[]⟩) ∧ w' = w := Any.strings_Join_none Tryz.lays156 Tryz.Builder_Extra_156 a c sep w
open Go.RowKit in
theorem Tryz.strings_Join (bk o c : Nat) (xs : List ByteArray) (sep : ByteArray) (w : World) (hcells : ∀ (j : Nat) x, xs[j]? = some x → w.cell? ⟨bk, o + j, none⟩ = some (.string x)) (hbk : bk < w.heap.size) (hN : xs.length ≤ 140737488355328) (hcap : xs.length ≤ c) (hlen : (Lib.join (xs.map (·.data.toList)) sep.data.toList).length ≤ 140737488355328) :
    Calls Tryz.prog 133 #[.slice (some ⟨bk, o, none⟩) xs.length c, .string sep] w fun e w' => e = .returned (.string ⟨(Lib.join (xs.map (·.data.toList)) sep.data.toList).toArray⟩) ∧ Below w.heap.size w w' := Any.strings_Join Tryz.lays156 Tryz.Builder_Extra_156 bk o c xs sep w hcells hbk hN hcap hlen
def Tryz.lays134_ren : Go.Shelf.Ren := ⟨fun | 134 => 162 | 129 => 171 | n => n, fun | 53 => 126 | 3 => 3 | 4 => 4 | 46 => 134 | 5 => 5 | 9 => 9 | n => n, fun | n => n⟩
theorem Tryz.lays134 : Go.Proofs.Lays.n134 Tryz.prog Tryz.lays134_ren := {
  mixed := by kernel_rfl
  f129 := Tryz.func171.trans (congrArg some (by kernel_rfl))
  f134 := Tryz.func162.trans (congrArg some (by kernel_rfl))
  t3 := Tryz.underlying3
  a3 := Tryz.isAgg3
  z3 := Tryz.sizeOf3
  v3 := Tryz.zeroValue3
  t4 := Tryz.underlying4
  a4 := Tryz.isAgg4
  z4 := Tryz.sizeOf4
  v4 := Tryz.zeroValue4
  t5 := Tryz.underlying5
  a5 := Tryz.isAgg5
  z5 := Tryz.sizeOf5
  v5 := Tryz.zeroValue5
  t9 := Tryz.underlying9
  a9 := Tryz.isAgg9
  z9 := Tryz.sizeOf9
  v9 := Tryz.zeroValue9
  t46 := Tryz.underlying134
  a46 := Tryz.isAgg134
  z46 := Tryz.sizeOf134
  v46 := Tryz.zeroValue134
  t53 := Tryz.underlying126
  a53 := Tryz.isAgg126
  z53 := Tryz.sizeOf126
  v53 := Tryz.zeroValue126 }
theorem Tryz.bits_LeadingZeros64 (x : Int) (w : World) (h0 : 0 ≤ x) (h1 : x ≤ 18446744073709551615) :
    Calls Tryz.prog 162 #[.int .u64 x] w fun e w' => e = .returned (.int .i64 (64 - (Lib.bitLen x.toNat : Int))) ∧ w' = w := Any.bits_LeadingZeros64 Tryz.lays134 x w h0 h1
def Tryz.lays264_ren : Go.Shelf.Ren := ⟨fun | 264 => 148 | n => n, fun | 53 => 126 | 46 => 134 | n => n, fun | n => n⟩
theorem Tryz.lays264 : Go.Proofs.Lays.n264 Tryz.prog Tryz.lays264_ren := {
  mixed := by kernel_rfl
  f264 := Tryz.func148.trans (congrArg some (by kernel_rfl))
  t46 := Tryz.underlying134
  a46 := Tryz.isAgg134
  z46 := Tryz.sizeOf134
  v46 := Tryz.zeroValue134
  t53 := Tryz.underlying126
  a53 := Tryz.isAgg126
  z53 := Tryz.sizeOf126
  v53 := Tryz.zeroValue126 }
open Go.RowKit Go.Lib in
theorem Tryz.bits_Mul64 (x y : Nat) (hx : x < 18446744073709551616) (hy : y < 18446744073709551616) (w : World) :
    Calls Tryz.prog 148 #[.int .u64 x, .int .u64 y] w fun e w' => e = .returned (.tuple #[.int .u64 ((x * y / 18446744073709551616 : Nat) : Int), .int .u64 ((x * y % 18446744073709551616 : Nat) : Int)]) ∧ w' = w := Any.bits_Mul64 Tryz.lays264 x y hx hy w
end Go.Proofs
/- math/bits.Div64 and Rem64 divide 128 by 64 bits. -/
namespace Go.Proofs.YtgjklfddoechpaaGreatDoor
open Go.RowKit
def DivPost (hi lo y : Nat) (w : World) (e : Ending) (w' : World) : Prop :=
  e = .returned (.tuple #[.int .u64 ((hi * 18446744073709551616 + lo) / y : Nat), .int .u64 ((hi * 18446744073709551616 + lo) % y : Nat)]) ∧ ∃ n, w' = w.drewN n
set_option maxRecDepth 100000 in
set_option maxHeartbeats 4000000 in
theorem div64_zero (lo y : Nat) (w : World) (hy : 0 < y) (hy2 : y < 18446744073709551616) (hlo : lo < 18446744073709551616) :
    Calls Tryz.prog 149 #[.int .u64 (0 : Nat), .int .u64 lo, .int .u64 y] w (DivPost 0 lo y w) := by
  have t1 : ((y : Int) == 0) = false := by rw [beq_eq_false_iff_ne]; omega
  have t2 : ¬ (y : Int) ≤ ((0 : Nat) : Int) := by omega
  have t3 : ¬ (y : Int) ≤ 0 := by omega
  have t4 : ((y : Int) ≤ ((0 : Nat) : Int)) = False := by simpa using t2
  have q1 : IntKind.u64.wrap ((lo : Int) / (y : Int)) = ((lo / y : Nat) : Int) := by
    have h := Nat.div_le_self lo y
    rw [← Int.natCast_ediv]
    generalize lo / y = d at *
    exact IntWalk.u64_in _ (by omega)
  have q2 : (lo : Int) % (y : Int) = ((lo % y : Nat) : Int) := (Int.natCast_emod lo y).symm
  go_enter Tryz.func149, Tryz.ntmps149
  go_wp2_with fail
  go_quiet (fail)
  go_wp2_with fail
  go_ret2
  refine ⟨?_, nq, rfl⟩
  rw [Nat.zero_mul, Nat.zero_add]
  rfl
theorem bitLenAux_spec : ∀ (f x : Nat), 0 < x → x < 2 ^ f → 1 ≤ Lib.bitLenAux f x ∧ Lib.bitLenAux f x ≤ f ∧ 2 ^ (Lib.bitLenAux f x - 1) ≤ x ∧ x < 2 ^ Lib.bitLenAux f x
  | 0, x, h0, h => by rw [Nat.pow_zero] at h; omega
  | f + 1, x, h0, h => by
    simp only [Lib.bitLenAux]
    rw [if_neg (by omega)]
    by_cases h1 : x / 2 = 0
    · have e : Lib.bitLenAux f (x / 2) = 0 := by rw [h1]; cases f <;> rfl
      rw [e]
      have : x = 1 := by omega
      subst this
      refine ⟨by omega, by omega, by decide, by decide⟩
    · have ih := bitLenAux_spec f (x / 2) (by omega) (by rw [Nat.pow_succ] at h; omega)
      generalize Lib.bitLenAux f (x / 2) = b at *
      obtain ⟨c, rfl⟩ : ∃ c, b = c + 1 := ⟨b - 1, by omega⟩
      rw [show 1 + (c + 1) = c + 1 + 1 by omega, Nat.add_sub_cancel, Nat.pow_succ 2 (c + 1)]
      rw [Nat.add_sub_cancel] at ih
      rw [Nat.pow_succ] at ih ⊢
      omega
/-- how far a divisor is shifted -/
theorem shift_of {y : Nat} (h0 : 0 < y) (h : y < 18446744073709551616) : ∃ s : Nat, s ≤ 63 ∧ (64 - (Lib.bitLen (y : Int).toNat : Int)) = (s : Int) ∧ 9223372036854775808 ≤ y * 2 ^ s ∧ y * 2 ^ s < 18446744073709551616 := by
  have hb := bitLenAux_spec 64 y h0 h
  rw [Int.toNat_natCast]
  unfold Lib.bitLen
  generalize Lib.bitLenAux 64 y = b at *
  refine ⟨64 - b, by omega, by omega, ?_, ?_⟩
  · have := Nat.mul_le_mul_right (2 ^ (64 - b)) hb.2.2.1
    rw [← Nat.pow_add, show b - 1 + (64 - b) = 63 by omega] at this
    exact this
  · have := Nat.mul_lt_mul_of_pos_right hb.2.2.2 (show 0 < 2 ^ (64 - b) from Nat.pow_pos (by decide))
    rw [← Nat.pow_add, show b + (64 - b) = 64 by omega] at this
    exact this
theorem mask32 (n : Nat) (h : n < 18446744073709551616) : bits .and .u64 (n : Int) 4294967295 = ((n % 4294967296 : Nat) : Int) := by
  have h1 := bits_and_u64_nat n 4294967295 (by omega) (by decide)
  have e : n &&& 4294967295 = n % 4294967296 := Nat.and_two_pow_sub_one_eq_mod n 32
  rw [e] at h1
  exact h1
theorem u64_mod (n : Nat) : IntKind.u64.wrap (n : Int) = ((n % 18446744073709551616 : Nat) : Int) := by
  simp [IntKind.wrap, IntKind.signed, IntKind.bits]
theorem u64_wrap (x : Int) : IntKind.u64.wrap x = x % 18446744073709551616 := by
  simp [IntKind.wrap, IntKind.signed, IntKind.bits]
theorem rest_wrap {a b c y z : Nat} (h : a * 4294967296 + b = c * y + z) (hz : z < 18446744073709551616) :
    IntKind.u64.wrap (IntKind.u64.wrap (IntKind.u64.wrap ((a : Int) * 4294967296) + (b : Int)) - IntKind.u64.wrap ((c : Int) * (y : Int))) = (z : Int) := by
  obtain ⟨p, hp⟩ : ∃ p, p = c * y := ⟨_, rfl⟩
  have h2 : (c : Int) * (y : Int) = (p : Int) := by rw [hp, Int.natCast_mul]
  rw [← hp] at h
  rw [h2, u64_wrap, u64_wrap, u64_wrap, u64_wrap]
  omega
/-- the dividend, shifted -/
theorem shifted {hi lo y s : Nat} (hs : s ≤ 63) (hhi : hi < y) (hlo : lo < 18446744073709551616) (hY : y * 2 ^ s < 18446744073709551616) :
    (hi * 2 ^ s + lo / 2 ^ (64 - s)) < y * 2 ^ s ∧ (hi * 18446744073709551616 + lo) * 2 ^ s = (hi * 2 ^ s + lo / 2 ^ (64 - s)) * 18446744073709551616 + lo * 2 ^ s % 18446744073709551616 ∧
    hi * 2 ^ s ||| lo / 2 ^ (64 - s) = hi * 2 ^ s + lo / 2 ^ (64 - s) ∧ hi * 2 ^ s < 18446744073709551616 := by
  have e64 : 2 ^ (64 - s) * 2 ^ s = 18446744073709551616 := by rw [← Nat.pow_add, show 64 - s + s = 64 by omega]
  have hp : 0 < 2 ^ (64 - s) := Nat.pow_pos (by decide)
  have hl : lo / 2 ^ (64 - s) < 2 ^ s := by
    rw [Nat.div_lt_iff_lt_mul hp, Nat.mul_comm, e64]
    exact hlo
  have h1 : hi * 2 ^ s + 2 ^ s ≤ y * 2 ^ s := by rw [← Nat.succ_mul]; exact Nat.mul_le_mul_right _ hhi
  refine ⟨Nat.lt_of_lt_of_le (Nat.add_lt_add_left hl _) h1, ?_, ?_, Nat.lt_of_le_of_lt (Nat.le_trans (Nat.le_add_right _ _) h1) hY⟩
  · have h2 : lo * 2 ^ s = lo / 2 ^ (64 - s) * 18446744073709551616 + lo % 2 ^ (64 - s) * 2 ^ s := by
      conv => lhs; rw [← Nat.div_add_mod lo (2 ^ (64 - s)), Nat.add_mul]
      rw [Nat.mul_comm (2 ^ (64 - s)), Nat.mul_assoc, e64]
    have h3 : lo % 2 ^ (64 - s) * 2 ^ s < 18446744073709551616 := by
      rw [← e64]
      exact Nat.mul_lt_mul_of_pos_right (Nat.mod_lt _ hp) (Nat.pow_pos (by decide))
    have h4 : lo * 2 ^ s % 18446744073709551616 = lo % 2 ^ (64 - s) * 2 ^ s := by
      rw [h2, Nat.add_comm, Nat.add_mul_mod_self_right, Nat.mod_eq_of_lt h3]
    rw [h4, Nat.add_mul, Nat.add_mul, h2, Nat.mul_assoc, Nat.mul_assoc, Nat.mul_comm 18446744073709551616 (2 ^ s)]
    omega
  · rw [Nat.mul_comm hi, ← Nat.two_pow_add_eq_or_of_lt hl]
set_option maxRecDepth 100000 in
set_option maxHeartbeats 4000000 in
theorem div64_pos (hi lo y : Nat) (w : World) (h0 : 0 < hi) (hhi : hi < y) (hy2 : y < 18446744073709551616) (hlo : lo < 18446744073709551616) :
    Calls Tryz.prog 149 #[.int .u64 hi, .int .u64 lo, .int .u64 y] w (DivPost hi lo y w) := by
  have t1 : ((y : Int) == 0) = false := by rw [beq_eq_false_iff_ne]; omega
  have t2 : ¬ (y : Int) ≤ (hi : Int) := by omega
  have t3 : ((hi : Int) == 0) = false := by rw [beq_eq_false_iff_ne]; omega
  go_enter Tryz.func149, Tryz.ntmps149
  go_wp2_with fail
  refine (Tryz.bits_LeadingZeros64 (y : Int) _ (by omega) (by omega)).mono ?_
  rintro e w' ⟨rfl, rfl⟩
  obtain ⟨s, hs, hse, hY1, hY2⟩ := shift_of (y := y) (by omega) hy2
  rw [hse]
  clear hse
  go_upto_region 9 with fail
  obtain ⟨Y, hY⟩ : ∃ Y : Nat, Y = y * 2 ^ s := ⟨_, rfl⟩
  have FY : IntKind.u64.wrap ((y : Int) * 2 ^ s) = (Y : Int) := by
    have e : (y : Int) * 2 ^ s = (Y : Int) := by rw [hY, Int.natCast_mul, Int.natCast_pow]; rfl
    rw [e]
    exact IntWalk.u64_in _ (by omega)
  rw [FY]
  have HY := Lib.hid hY
  rw [← hY] at hY1 hY2
  clear hY FY
  go_upto_region 11 with fail
  rw [mask32 Y hY2]
  have FS := Lib.hid (shifted (lo := lo) hs hhi hlo (by rw [← HY.out]; exact hY2))
  obtain ⟨U, hU⟩ : ∃ U : Nat, U = hi * 2 ^ s + lo / 2 ^ (64 - s) := ⟨_, rfl⟩
  obtain ⟨V, hV⟩ : ∃ V : Nat, V = lo * 2 ^ s % 18446744073709551616 := ⟨_, rfl⟩
  have FU : bits .or .u64 (IntKind.u64.wrap ((hi : Int) * 2 ^ s)) ((lo : Int) / 2 ^ (64 - s)) = (U : Int) := by
    have e : (hi : Int) * 2 ^ s = ((hi * 2 ^ s : Nat) : Int) := by rw [Int.natCast_mul, Int.natCast_pow]; rfl
    have e2 : (lo : Int) / 2 ^ (64 - s) = ((lo / 2 ^ (64 - s) : Nat) : Int) := by rw [Int.natCast_ediv, Int.natCast_pow]; rfl
    have h4 := FS.out.2.2.2
    have h5 := Nat.div_le_self lo (2 ^ (64 - s))
    have h6 := FS.out.2.2.1
    rw [e, e2, hU, ← h6]
    generalize hi * 2 ^ s = A at *
    generalize lo / 2 ^ (64 - s) = C at *
    rw [IntWalk.u64_in _ (by omega)]
    exact bits_or_u64_nat _ _ h4 (by omega)
  have FV : IntKind.u64.wrap ((lo : Int) * 2 ^ s) = (V : Int) := by
    have e : (lo : Int) * 2 ^ s = ((lo * 2 ^ s : Nat) : Int) := by rw [Int.natCast_mul, Int.natCast_pow]; rfl
    rw [e, hV]
    exact u64_mod _
  have HU := Lib.hid hU
  have HV := Lib.hid hV
  have hUY : U < Y := by rw [hU, HY.out]; exact FS.out.1
  have hVb : V < 18446744073709551616 := by rw [hV]; exact Nat.mod_lt _ (by decide)
  have HE : Hid ((hi * 18446744073709551616 + lo) * 2 ^ s = U * 18446744073709551616 + V) := Lib.hid (by rw [hU, hV]; exact FS.out.2.1)
  clear hU hV
  go_upto_region 12 with fail
  go_upto_region 13 with fail
  go_upto_region 15 with fail
  rw [mask32 V hVb]
  clear FU FV
  have e1 : (Y : Int) / 4294967296 = ((Y / 4294967296 : Nat) : Int) := by omega
  have e2 : (V : Int) / 4294967296 = ((V / 4294967296 : Nat) : Int) := by omega
  rw [e1, e2]
  clear e1 e2
  obtain ⟨y1, hy1⟩ : ∃ y1, y1 = Y / 4294967296 := ⟨_, rfl⟩
  obtain ⟨y0, hy0⟩ : ∃ y0, y0 = Y % 4294967296 := ⟨_, rfl⟩
  obtain ⟨u1, hu1⟩ : ∃ u1, u1 = V / 4294967296 := ⟨_, rfl⟩
  obtain ⟨u0, hu0⟩ : ∃ u0, u0 = V % 4294967296 := ⟨_, rfl⟩
  rw [← hy1, ← hy0, ← hu1, ← hu0]
  have HYe : Hid (Y = y1 * 4294967296 + y0) := Lib.hid (by omega)
  have HVe : Hid (V = u1 * 4294967296 + u0) := Lib.hid (by omega)
  have by1 : 2147483648 ≤ y1 ∧ y1 < 4294967296 := by omega
  have by0 : y0 < 4294967296 := by omega
  have bu1 : u1 < 4294967296 := by omega
  have bu0 : u0 < 4294967296 := by omega
  have hD := dinv_start (B := 4294967296) (u := U) (y1 := y1) (y0 := y0) (u1 := u1) (by omega) by0 (by rw [← HYe.out]; exact hUY) bu1
  have hUb : U < 18446744073709551616 := by omega
  clear hy1 hy0 hu1 hu0
  obtain ⟨q, hq⟩ : ∃ q, q = U / y1 := ⟨_, rfl⟩
  obtain ⟨r, hr⟩ : ∃ r, r = U % y1 := ⟨_, rfl⟩
  obtain ⟨p, hp⟩ : ∃ p, p = q * y1 := ⟨_, rfl⟩
  have hpu : U = p + r := by rw [hp, hq, hr, Nat.mul_comm]; exact (Nat.div_add_mod U y1).symm
  have hrb : r < 4294967296 := by rw [hr]; exact Nat.lt_trans (Nat.mod_lt _ (by omega)) by1.2
  rw [← hq, ← hr] at hD
  have hqb := hD.top
  have F1 : (U : Int) / (y1 : Int) = (q : Int) := by rw [hq]; exact (Int.natCast_ediv U y1).symm
  have F2 : IntKind.u64.wrap (q : Int) = (q : Int) := IntWalk.u64_in _ (by omega)
  have F3 : IntKind.u64.wrap ((q : Int) * (y1 : Int)) = (p : Int) := by
    rw [hp, Int.natCast_mul]
    refine IntWalk.u64_in _ ?_
    rw [← Int.natCast_mul, ← hp]
    omega
  have F4 : (U : Int) - (p : Int) = (r : Int) := by omega
  have HD := Lib.hid hD
  have HPU := Lib.hid hpu
  clear hD hq hr hp hpu
  go_upto_block 0 with fail
  obtain ⟨d, hd⟩ : ∃ d, d = (U * 4294967296 + u1) / (y1 * 4294967296 + y0) := ⟨_, rfl⟩
  have Hd := Lib.hid hd
  have HYb : Hid (U < y1 * 4294967296 + y0) := Lib.hid (by rw [← HYe.out]; exact hUY)
  clear hd F1 F2 F3 F4
  go_cut [15] (fun v wx => v = .int .u64 d ∧ wx = w')
  case first =>
    go_wp2_with fail
    go_loopg [15, 16] 4294967300 (fun m qv rv wr => ∃ q r : Nat, q ≤ m ∧ qv = .int .u64 q ∧ rv = .int .u64 r ∧ DInv 4294967296 U y1 y0 u1 q r ∧ r < 4294967296 ∧ wr = w')
    case atStart => exact ⟨q, r, by omega, rfl, rfl, HD.out, hrb, rfl⟩
    case round =>
      obtain ⟨q, r, hqm, rfl, rfl, hI0, hrb2, rfl⟩ := hrel
      have hI := Lib.hid hI0
      have htop := hI0.top
      clear hI0
      obtain ⟨m, hm⟩ : ∃ m, m = q * y0 := ⟨_, rfl⟩
      have HM := Lib.hid hm
      have hmb : r * 4294967296 + u1 < q * y0 ↔ 4294967296 * r + u1 < m := by rw [hm, Nat.mul_comm r]
      by_cases hq : 4294967296 ≤ q
      · have T1 : decide ((4294967296 : Int) ≤ (q : Int)) = true := decide_eq_true (by omega)
        clear hm hmb
        obtain ⟨hq1, hL⟩ := dinv_less hI.out HYb.out bu1 (Or.inl hq)
        have HL := Lib.hid hL
        have FQ : IntKind.u64.wrap ((q : Int) - 1) = ((q - 1 : Nat) : Int) := by
          rw [IntWalk.u64_in _ (by omega)]
          omega
        have HTop := Lib.hid htop
        clear hL htop
        by_cases hb : 4294967296 ≤ r + y1
        · have HDn : Hid (d = q - 1) := Lib.hid (Hd.out.trans (dinv_break HL.out (by omega) by0 (by have := HTop.out; omega) hb).symm)
          have T9 : decide ((4294967296 : Int) ≤ (r : Int) + (y1 : Int)) = true := decide_eq_true (by omega)
          clear hb hq
          go_wp2_with fail
          go_meet
          exact ⟨by rw [HDn.out], rfl⟩
        · have T9 : decide ((4294967296 : Int) ≤ (r : Int) + (y1 : Int)) = false := decide_eq_false (by omega)
          have HB9 := Lib.hid hb
          have HQ1 := Lib.hid hq1
          clear hb hq
          go_wp2_with fail
          go_roundg (q - 1)
          case measure => have := HQ1.out; omega
          case rel => exact ⟨q - 1, r + y1, Nat.le_refl _, rfl, by go_num, HL.out, by have := HB9.out; omega, rfl⟩
      · have hm64 : m < 18446744073709551616 := by
          rw [hm]
          have := Nat.mul_le_mul (show q ≤ 4294967295 by omega) (show y0 ≤ 4294967295 by omega)
          omega
        have F5 : IntKind.u64.wrap ((q : Int) * (y0 : Int)) = (m : Int) := by
          rw [hm, Int.natCast_mul]
          refine IntWalk.u64_in _ ?_
          rw [← Int.natCast_mul, ← hm]
          omega
        have T1 : decide ((4294967296 : Int) ≤ (q : Int)) = false := decide_eq_false (by omega)
        by_cases hlt : 4294967296 * r + u1 < m
        · have hlt' := hmb.2 hlt
          have HLT := Lib.hid hlt'
          have T2 : decide ((4294967296 : Int) * (r : Int) + (u1 : Int) < (m : Int)) = true := decide_eq_true (by omega)
          clear hm hmb hlt' hlt
          obtain ⟨hq1, hL⟩ := dinv_less hI.out HYb.out bu1 (Or.inr HLT.out)
          have HL := Lib.hid hL
          have FQ : IntKind.u64.wrap ((q : Int) - 1) = ((q - 1 : Nat) : Int) := by
            rw [IntWalk.u64_in _ (by omega)]
            omega
          have HTop := Lib.hid htop
          clear hL htop
          by_cases hb : 4294967296 ≤ r + y1
          · have HDn : Hid (d = q - 1) := Lib.hid (Hd.out.trans (dinv_break HL.out (by omega) by0 (by have := HTop.out; omega) hb).symm)
            have T9 : decide ((4294967296 : Int) ≤ (r : Int) + (y1 : Int)) = true := decide_eq_true (by omega)
            clear hb hq
            go_wp2_with fail
            go_meet
            exact ⟨by rw [HDn.out], rfl⟩
          · have T9 : decide ((4294967296 : Int) ≤ (r : Int) + (y1 : Int)) = false := decide_eq_false (by omega)
            have HB9 := Lib.hid hb
            have HQ1 := Lib.hid hq1
            clear hb hq
            go_wp2_with fail
            go_roundg (q - 1)
            case measure => have := HQ1.out; omega
            case rel => exact ⟨q - 1, r + y1, Nat.le_refl _, rfl, by go_num, HL.out, by have := HB9.out; omega, rfl⟩
        · have HDn : Hid (d = q) := Lib.hid (Hd.out.trans (dinv_done hI.out (by omega) (by rw [← hm]; omega)).symm)
          have T2 : decide ((4294967296 : Int) * (r : Int) + (u1 : Int) < (m : Int)) = false := decide_eq_false (by omega)
          clear hm hmb hq hlt htop
          go_wp2_with fail
          go_meet
          exact ⟨by rw [HDn.out], rfl⟩
  case rest =>
    obtain ⟨rfl, rfl⟩ := hcut
    obtain ⟨Z, hZ⟩ : ∃ Z, Z = (U * 4294967296 + u1) % (y1 * 4294967296 + y0) := ⟨_, rfl⟩
    have hzy : Z < y1 * 4294967296 + y0 := by rw [hZ]; exact Nat.mod_lt _ (by omega)
    have hdz : U * 4294967296 + u1 = d * Y + Z := by
      rw [Hd.out, hZ, HYe.out]
      exact (Nat.div_add_mod' _ _).symm
    have hZb : Z < 18446744073709551616 := by rw [← HYe.out] at hzy; omega
    have FZ := rest_wrap hdz hZb
    have HZ := Lib.hid hZ
    have HZY := Lib.hid hzy
    clear hZ hdz hzy
    go_upto_region 22 with fail
    have hD2 := dinv_start (B := 4294967296) (u := Z) (y1 := y1) (y0 := y0) (u1 := u0) (by omega) by0 HZY.out bu0
    obtain ⟨q2, hq⟩ : ∃ q, q = Z / y1 := ⟨_, rfl⟩
    obtain ⟨r2, hr⟩ : ∃ r, r = Z % y1 := ⟨_, rfl⟩
    obtain ⟨p2, hp⟩ : ∃ p, p = q2 * y1 := ⟨_, rfl⟩
    have hpu : Z = p2 + r2 := by rw [hp, hq, hr, Nat.mul_comm]; exact (Nat.div_add_mod Z y1).symm
    have hr2 : r2 < 4294967296 := by rw [hr]; exact Nat.lt_trans (Nat.mod_lt _ (by omega)) by1.2
    rw [← hq, ← hr] at hD2
    have hqb2 := hD2.top
    have F1 : (Z : Int) / (y1 : Int) = (q2 : Int) := by rw [hq]; exact (Int.natCast_ediv Z y1).symm
    have F2 : IntKind.u64.wrap (q2 : Int) = (q2 : Int) := IntWalk.u64_in _ (by omega)
    have F3 : IntKind.u64.wrap ((q2 : Int) * (y1 : Int)) = (p2 : Int) := by
      rw [hp, Int.natCast_mul]
      refine IntWalk.u64_in _ ?_
      rw [← Int.natCast_mul, ← hp]
      omega
    have F4 : (Z : Int) - (p2 : Int) = (r2 : Int) := by omega
    have HD2 := Lib.hid hD2
    clear hD2 hq hr hp hpu FZ
    go_upto_block 2 with fail
    obtain ⟨d2, hd⟩ : ∃ d, d = (Z * 4294967296 + u0) / (y1 * 4294967296 + y0) := ⟨_, rfl⟩
    have Hd2 := Lib.hid hd
    clear hd F1 F2 F3 F4
    go_cut [18] (fun v wx => v = .int .u64 d2 ∧ wx = wc)
    case first =>
      go_wp2_with fail
      go_loopg [18, 16] 4294967300 (fun m qv rv wr => ∃ q r : Nat, q ≤ m ∧ qv = .int .u64 q ∧ rv = .int .u64 r ∧ DInv 4294967296 Z y1 y0 u0 q r ∧ r < 4294967296 ∧ wr = wc)
      case atStart => exact ⟨q2, r2, by omega, rfl, rfl, HD2.out, hr2, rfl⟩
      case round =>
        obtain ⟨q, r, hqm, rfl, rfl, hI0, hrb2, rfl⟩ := hrel
        have hI := Lib.hid hI0
        have htop := hI0.top
        clear hI0
        obtain ⟨m, hm⟩ : ∃ m, m = q * y0 := ⟨_, rfl⟩
        have HM := Lib.hid hm
        have hmb : r * 4294967296 + u0 < q * y0 ↔ 4294967296 * r + u0 < m := by rw [hm, Nat.mul_comm r]
        by_cases hq : 4294967296 ≤ q
        · have T1 : decide ((4294967296 : Int) ≤ (q : Int)) = true := decide_eq_true (by omega)
          clear hm hmb
          obtain ⟨hq1, hL⟩ := dinv_less hI.out HZY.out bu0 (Or.inl hq)
          have HL := Lib.hid hL
          have FQ : IntKind.u64.wrap ((q : Int) - 1) = ((q - 1 : Nat) : Int) := by
            rw [IntWalk.u64_in _ (by omega)]
            omega
          have HTop := Lib.hid htop
          clear hL htop
          by_cases hb : 4294967296 ≤ r + y1
          · have HDn : Hid (d2 = q - 1) := Lib.hid (Hd2.out.trans (dinv_break HL.out (by omega) by0 (by have := HTop.out; omega) hb).symm)
            have T9 : decide ((4294967296 : Int) ≤ (r : Int) + (y1 : Int)) = true := decide_eq_true (by omega)
            clear hb hq
            go_wp2_with fail
            go_meet
            exact ⟨by rw [HDn.out], rfl⟩
          · have T9 : decide ((4294967296 : Int) ≤ (r : Int) + (y1 : Int)) = false := decide_eq_false (by omega)
            have HB9 := Lib.hid hb
            have HQ1 := Lib.hid hq1
            clear hb hq
            go_wp2_with fail
            go_roundg (q - 1)
            case measure => have := HQ1.out; omega
            case rel => exact ⟨q - 1, r + y1, Nat.le_refl _, rfl, by go_num, HL.out, by have := HB9.out; omega, rfl⟩
        · have hm64 : m < 18446744073709551616 := by
            rw [hm]
            have := Nat.mul_le_mul (show q ≤ 4294967295 by omega) (show y0 ≤ 4294967295 by omega)
            omega
          have F5 : IntKind.u64.wrap ((q : Int) * (y0 : Int)) = (m : Int) := by
            rw [hm, Int.natCast_mul]
            refine IntWalk.u64_in _ ?_
            rw [← Int.natCast_mul, ← hm]
            omega
          have T1 : decide ((4294967296 : Int) ≤ (q : Int)) = false := decide_eq_false (by omega)
          by_cases hlt : 4294967296 * r + u0 < m
          · have hlt' := hmb.2 hlt
            have HLT := Lib.hid hlt'
            have T2 : decide ((4294967296 : Int) * (r : Int) + (u0 : Int) < (m : Int)) = true := decide_eq_true (by omega)
            clear hm hmb hlt' hlt
            obtain ⟨hq1, hL⟩ := dinv_less hI.out HZY.out bu0 (Or.inr HLT.out)
            have HL := Lib.hid hL
            have FQ : IntKind.u64.wrap ((q : Int) - 1) = ((q - 1 : Nat) : Int) := by
              rw [IntWalk.u64_in _ (by omega)]
              omega
            have HTop := Lib.hid htop
            clear hL htop
            by_cases hb : 4294967296 ≤ r + y1
            · have HDn : Hid (d2 = q - 1) := Lib.hid (Hd2.out.trans (dinv_break HL.out (by omega) by0 (by have := HTop.out; omega) hb).symm)
              have T9 : decide ((4294967296 : Int) ≤ (r : Int) + (y1 : Int)) = true := decide_eq_true (by omega)
              clear hb hq
              go_wp2_with fail
              go_meet
              exact ⟨by rw [HDn.out], rfl⟩
            · have T9 : decide ((4294967296 : Int) ≤ (r : Int) + (y1 : Int)) = false := decide_eq_false (by omega)
              have HB9 := Lib.hid hb
              have HQ1 := Lib.hid hq1
              clear hb hq
              go_wp2_with fail
              go_roundg (q - 1)
              case measure => have := HQ1.out; omega
              case rel => exact ⟨q - 1, r + y1, Nat.le_refl _, rfl, by go_num, HL.out, by have := HB9.out; omega, rfl⟩
          · have HDn : Hid (d2 = q) := Lib.hid (Hd2.out.trans (dinv_done hI.out (by omega) (by rw [← hm]; omega)).symm)
            have T2 : decide ((4294967296 : Int) * (r : Int) + (u0 : Int) < (m : Int)) = false := decide_eq_false (by omega)
            clear hm hmb hq hlt htop
            go_wp2_with fail
            go_meet
            exact ⟨by rw [HDn.out], rfl⟩
    case rest =>
      obtain ⟨rfl, rfl⟩ := hcut
      have hdb : d < 4294967296 := by rw [Hd.out]; exact dig_lt HYb.out bu1
      have hd2b : d2 < 4294967296 := by rw [Hd2.out]; exact dig_lt HZY.out bu0
      obtain ⟨R, hR⟩ : ∃ R, R = (Z * 4294967296 + u0) % (y1 * 4294967296 + y0) := ⟨_, rfl⟩
      have hdr : Z * 4294967296 + u0 = d2 * Y + R := by
        rw [Hd2.out, hR, HYe.out]
        exact (Nat.div_add_mod' _ _).symm
      have hRb : R < 18446744073709551616 := by
        have : R < y1 * 4294967296 + y0 := by rw [hR]; exact Nat.mod_lt _ (by omega)
        rw [← HYe.out] at this
        omega
      have FR := rest_wrap hdr hRb
      have hfin := two_digits 4294967296 U (y1 * 4294967296 + y0) u1 u0 (by omega)
      rw [← HZ.out, ← Hd.out, ← Hd2.out, ← hR] at hfin
      have hn : U * (4294967296 * 4294967296) + u1 * 4294967296 + u0 = (hi * 18446744073709551616 + lo) * 2 ^ s := by
        rw [HE.out, show (4294967296 : Nat) * 4294967296 = 18446744073709551616 from rfl, Nat.add_assoc, ← HVe.out]
      have hsd := shift_div (hi * 18446744073709551616 + lo) y (2 ^ s) (Nat.pow_pos (by decide))
      rw [hn, ← HYe.out, HY.out, hsd.1, hsd.2] at hfin
      have hq : ((hi * 18446744073709551616 + lo) / y : Nat) = d * 4294967296 + d2 := hfin.1.symm
      have hr : ((hi * 18446744073709551616 + lo) % y : Nat) = R / 2 ^ s := by
        rw [hfin.2, Nat.mul_div_cancel _ (Nat.pow_pos (by decide))]
      have FR2 : (R : Int) / 2 ^ s = ((R / 2 ^ s : Nat) : Int) := by rw [Int.natCast_ediv, Int.natCast_pow]; rfl
      have HQ := Lib.hid hq
      have HR := Lib.hid hr
      clear hR hdr hfin hn hsd hq hr
      generalize R / 2 ^ s = R2 at *
      go_wp2_with fail
      go_ret2
      refine ⟨?_, 0, rfl⟩
      have e : ((d * 4294967296 + d2 : Nat) : Int) = (d : Int) * 4294967296 + (d2 : Int) := by omega
      rw [HQ.out, HR.out, e]
      rfl
/-- math/bits.Div64 -/
theorem div64_any (hi lo y : Nat) (w : World) (hhi : hi < y) (hy2 : y < 18446744073709551616) (hlo : lo < 18446744073709551616) :
    Calls Tryz.prog 149 #[.int .u64 hi, .int .u64 lo, .int .u64 y] w (DivPost hi lo y w) := by
  rcases Nat.eq_zero_or_pos hi with h | h
  · subst h
    exact div64_zero lo y w hhi hy2 hlo
  · exact div64_pos hi lo y w h hhi hy2 hlo
end Go.Proofs.YtgjklfddoechpaaGreatDoor
/- Package group: residue, product, Mul, MulQ, AddQ, Exp, In, Inv. -/
namespace Go.Proofs.YtgjklfddoechpaaGreatDoor
open Go.RowKit
/-- the residue of an int -/
def resN (n : Int) (m : Nat) : Nat := (n % (m : Int)).toNat
theorem resN_lt {m : Nat} (n : Int) (h : 0 < m) : resN n m < m := by
  unfold resN
  have h1 := Int.emod_nonneg n (show (m : Int) ≠ 0 by omega)
  have h2 := Int.emod_lt_of_pos n (show (0 : Int) < m by omega)
  omega
theorem resN_cast {m : Nat} (n : Int) (h : 0 < m) : ((resN n m : Nat) : Int) = n % (m : Int) := by
  unfold resN
  have h1 := Int.emod_nonneg n (show (m : Int) ≠ 0 by omega)
  omega
set_option maxRecDepth 100000 in
set_option maxHeartbeats 1000000 in
theorem rem64_any (hi lo y : Nat) (w : World) (hy0 : 0 < y) (hhi : hi < 18446744073709551616) (hy2 : y < 18446744073709551616) (hlo : lo < 18446744073709551616) :
    Calls Tryz.prog 160 #[.int .u64 hi, .int .u64 lo, .int .u64 y] w fun e w' => e = .returned (.int .u64 ((hi * 18446744073709551616 + lo) % y : Nat)) ∧ ∃ n, w' = w.drewN n := by
  obtain ⟨h, hh⟩ : ∃ h, h = hi % y := ⟨_, rfl⟩
  have F1 : (hi : Int) % (y : Int) = (h : Int) := by rw [hh]; exact (Int.natCast_emod hi y).symm
  have HM : Hid ((h * 18446744073709551616 + lo) % y = (hi * 18446744073709551616 + lo) % y) := Lib.hid (by rw [hh, Nat.add_mod, Nat.mul_mod, Nat.mod_mod, ← Nat.mul_mod, ← Nat.add_mod])
  have HL : Hid (h < y) := Lib.hid (by rw [hh]; exact Nat.mod_lt hi hy0)
  have HY2 := Lib.hid hy2
  have HLO := Lib.hid hlo
  have t1 : ((y : Int) = 0) = False := by simp; omega
  clear hh hy2 hlo
  go_enter Tryz.func160, Tryz.ntmps160
  go_wp2_with fail
  refine (div64_any h lo y _ HL.out HY2.out HLO.out).mono ?_
  rintro e w1 ⟨rfl, n, rfl⟩
  rw [HM.out]
  go_wp2_with fail
  go_ret
  exact ⟨rfl, n, rfl⟩
set_option maxRecDepth 100000 in
set_option maxHeartbeats 1000000 in
theorem residue_any (n : Int) (m : Nat) (w : World) (hn : -9223372036854775808 ≤ n ∧ n ≤ 9223372036854775807) (hm0 : 0 < m) (hm : m < 4611686018427387904) :
    Calls Tryz.prog 114 #[.int .i64 n, .int .i64 m] w fun e w' => e = .returned (.int .i64 (resN n m : Nat)) ∧ w' = w := by
  have t1 : ¬ (m : Int) = 0 := by omega
  have hr := resN_cast n hm0
  have hb := Int.emod_lt_of_pos n (show (0 : Int) < m by omega)
  have h0 := Int.emod_nonneg n (show (m : Int) ≠ 0 by omega)
  have HR := Lib.hid hr
  clear hr
  by_cases hneg : 0 ≤ n
  · have F1 : n % (m : Int) = (resN n m : Int) := HR.out.symm
    have F2 : ¬ ((resN n m : Int) < 0) := by omega
    go_enter Tryz.func114, Tryz.ntmps114
    go_wp2_with fail
    go_ret
    exact ⟨by first | rfl | rw [HR.out], rfl⟩
  · obtain ⟨k, hk⟩ : ∃ k : Nat, (k : Int) = (-n) % (m : Int) := ⟨((-n) % (m : Int)).toNat, by have := Int.emod_nonneg (-n) (show (m : Int) ≠ 0 by omega); omega⟩
    have hkm : (k : Int) < m := by rw [hk]; exact Int.emod_lt_of_pos _ (by omega)
    have F1 : n.tmod (m : Int) = -(k : Int) := by
      rw [hk, ← Int.tmod_eq_emod_of_nonneg (show 0 ≤ -n by omega), Int.neg_tmod, Int.neg_neg]
    have e1 : n = -(k : Int) + (m : Int) * (-((-n) / (m : Int))) := by
      have := Int.emod_add_mul_ediv (-n) (m : Int)
      rw [← hk] at this
      rw [Int.mul_neg]
      omega
    have e2 : n % (m : Int) = (-(k : Int)) % (m : Int) := by
      conv => lhs; rw [e1]
      exact Int.add_mul_emod_self_left _ _ _
    by_cases h0k : k = 0
    · have HE : Hid ((resN n m : Int) = 0) := Lib.hid (by rw [HR.out, e2, h0k]; simp)
      have F3 : ¬ (-(k : Int) < 0) := by omega
      clear hk e1 e2
      go_enter Tryz.func114, Tryz.ntmps114
      go_wp2_with fail
      go_ret
      exact ⟨by rw [HE.out]; first | rfl | (congr 2; omega), rfl⟩
    · have HE : Hid ((resN n m : Int) = -(k : Int) + m) := Lib.hid (by
        rw [HR.out, e2, ← Int.add_emod_right, Int.emod_eq_of_lt (by omega) (by omega)])
      have F3 : -(k : Int) < 0 := by omega
      clear hk e1 e2
      go_enter Tryz.func114, Tryz.ntmps114
      go_wp2_with fail
      go_ret
      exact ⟨by rw [HE.out]; first | rfl | (congr 2; omega), rfl⟩
/-- the product of two residues -/
def mulN (a b : Int) (m : Nat) : Nat := resN a m * resN b m % m
theorem mulN_lt {m : Nat} (a b : Int) (h : 0 < m) : mulN a b m < m := Nat.mod_lt _ h
theorem resN_of {n m : Nat} (h : n < m) : resN (n : Int) m = n := by
  unfold resN
  rw [Int.emod_eq_of_lt (by omega) (by omega), Int.toNat_natCast]
theorem resN_nat (n m : Nat) : resN (n : Int) m = n % m := by
  unfold resN
  rw [← Int.natCast_emod, Int.toNat_natCast]
set_option maxRecDepth 100000 in
set_option maxHeartbeats 2000000 in
theorem product_any (a b : Int) (m : Nat) (w : World) (ha : -9223372036854775808 ≤ a ∧ a ≤ 9223372036854775807) (hb : -9223372036854775808 ≤ b ∧ b ≤ 9223372036854775807) (hm0 : 0 < m) (hm : m < 4611686018427387904) :
    Calls Tryz.prog 143 #[.int .i64 a, .int .i64 b, .int .i64 m] w fun e w' => e = .returned (.int .i64 (mulN a b m : Nat)) ∧ ∃ n, w' = w.drewN n := by
  obtain ⟨x, hx⟩ : ∃ x, x = resN a m := ⟨_, rfl⟩
  obtain ⟨y, hy⟩ : ∃ y, y = resN b m := ⟨_, rfl⟩
  have hxm : x < m := by rw [hx]; exact resN_lt a hm0
  have hym : y < m := by rw [hy]; exact resN_lt b hm0
  obtain ⟨h, hh⟩ : ∃ h, h = x * y / 18446744073709551616 := ⟨_, rfl⟩
  obtain ⟨l, hl⟩ : ∃ l, l = x * y % 18446744073709551616 := ⟨_, rfl⟩
  have hhb : h < 18446744073709551616 := by
    rw [hh, Nat.div_lt_iff_lt_mul (by decide)]
    have := Nat.mul_lt_mul_of_lt_of_lt hxm hym
    have h2 := Nat.mul_le_mul (Nat.le_of_lt hm) (Nat.le_of_lt hm)
    exact Nat.lt_of_lt_of_le this (Nat.le_trans h2 (by decide))
  have hlb : l < 18446744073709551616 := by rw [hl]; exact Nat.mod_lt _ (by decide)
  have HE : Hid ((h * 18446744073709551616 + l) % m = mulN a b m) := Lib.hid (by
    unfold mulN
    rw [← hx, ← hy, hh, hl, Nat.div_add_mod'])
  have hrm := mulN_lt a b hm0
  have HA := Lib.hid ha
  have HB := Lib.hid hb
  have HX := Lib.hid hx
  have HY := Lib.hid hy
  have HH := Lib.hid hh
  have HL := Lib.hid hl
  clear ha hb hx hy hh hl
  go_enter Tryz.func143, Tryz.ntmps143
  go_wp2_with fail
  refine (residue_any a m _ HA.out hm0 hm).mono ?_
  rintro e w1 ⟨rfl, rfl⟩
  rw [← HX.out]
  go_wp2_with fail
  refine (residue_any b m _ HB.out hm0 hm).mono ?_
  rintro e w1 ⟨rfl, rfl⟩
  rw [← HY.out]
  go_wp2_with fail
  refine (Tryz.bits_Mul64 x y (by omega) (by omega) _).mono ?_
  rintro e w1 ⟨rfl, rfl⟩
  rw [← HH.out, ← HL.out]
  go_wp2_with fail
  refine (rem64_any h l m _ hm0 hhb (by omega) hlb).mono ?_
  rintro e w1 ⟨rfl, n, rfl⟩
  rw [HE.out]
  go_wp2_with fail
  go_ret
  exact ⟨rfl, n, rfl⟩
theorem gP_eq : (2305843009213691579 : Int) = ((gP : Nat) : Int) := rfl
theorem gQ_eq : (1152921504606845789 : Int) = ((gQ : Nat) : Int) := rfl
set_option maxRecDepth 100000 in
set_option maxHeartbeats 1000000 in
theorem mul_any (a b : Int) (w : World) (ha : -9223372036854775808 ≤ a ∧ a ≤ 9223372036854775807) (hb : -9223372036854775808 ≤ b ∧ b ≤ 9223372036854775807) :
    Calls Tryz.prog 112 #[.int .i64 a, .int .i64 b] w fun e w' => e = .returned (.int .i64 (mulN a b gP : Nat)) ∧ ∃ n, w' = w.drewN n := by
  go_enter Tryz.func112, Tryz.ntmps112
  go_wp2_with fail
  refine (product_any a b gP _ ha hb (by decide) (by decide)).mono ?_
  rintro e w1 ⟨rfl, n, rfl⟩
  go_wp2_with fail
  go_ret
  exact ⟨rfl, n, rfl⟩
set_option maxRecDepth 100000 in
set_option maxHeartbeats 1000000 in
theorem mulQ_any (a b : Int) (w : World) (ha : -9223372036854775808 ≤ a ∧ a ≤ 9223372036854775807) (hb : -9223372036854775808 ≤ b ∧ b ≤ 9223372036854775807) :
    Calls Tryz.prog 107 #[.int .i64 a, .int .i64 b] w fun e w' => e = .returned (.int .i64 (mulN a b gQ : Nat)) ∧ ∃ n, w' = w.drewN n := by
  go_enter Tryz.func107, Tryz.ntmps107
  go_wp2_with fail
  refine (product_any a b gQ _ ha hb (by decide) (by decide)).mono ?_
  rintro e w1 ⟨rfl, n, rfl⟩
  go_wp2_with fail
  go_ret
  exact ⟨rfl, n, rfl⟩
end Go.Proofs.YtgjklfddoechpaaGreatDoor
/- group.Exp is the power. -/
namespace Go.Proofs.YtgjklfddoechpaaGreatDoor
open Go.RowKit
/-- the exponent that counts -/
def eN (e : Int) : Nat := if e < 0 then resN e gQ else e.toNat
def expN (a e : Int) : Nat := resN a gP ^ eN e % gP
theorem eN_lt {e : Int} (h : e ≤ 9223372036854775807) : eN e < 9223372036854775808 := by
  unfold eN
  split
  · have := resN_lt e (show 0 < gQ by decide)
    have h2 : gQ = 1152921504606845789 := rfl
    omega
  · omega
theorem half_step (E k : Nat) (hk : k < 63) : E / 2 ^ (62 - k) = 2 * (E / 2 ^ (63 - k)) + E / 2 ^ (62 - k) % 2 := by
  have e : 2 ^ (63 - k) = 2 ^ (62 - k) * 2 := by rw [← Nat.pow_succ]; congr 1; omega
  rw [e, ← Nat.div_div_eq_div_mul]
  omega
theorem sq_step (x P t b : Nat) (hb : b = t % 2) : x ^ t % P = (x ^ (t / 2) % P) * (x ^ (t / 2) % P) % P * (if b = 1 then x else 1) % P := by
  have e : x ^ t = x ^ (t / 2) * x ^ (t / 2) * (if b = 1 then x else 1) := by
    conv => lhs; rw [← Nat.div_add_mod t 2, Nat.pow_add, Nat.two_mul, Nat.pow_add, ← hb]
    have : b = 0 ∨ b = 1 := by omega
    rcases this with h | h <;> rw [h] <;> simp
  rw [e, Nat.mul_mod (x ^ (t / 2) * x ^ (t / 2)), Nat.mul_mod (x ^ (t / 2))]
  simp [Nat.mul_mod]
theorem and1 (t : Nat) (h : t < 9223372036854775808) : bits .and .i64 (t : Int) 1 = ((t % 2 : Nat) : Int) := by
  show IntKind.i64.wrap ((BitVec.ofInt 64 (t : Int) &&& BitVec.ofInt 64 ((1 : Nat) : Int)).toNat : Int) = _
  rw [BitVec.toNat_and, BitVec.ofInt_natCast, BitVec.ofInt_natCast, BitVec.toNat_ofNat, BitVec.toNat_ofNat, Nat.mod_eq_of_lt (show t < 2 ^ 64 by omega), Nat.mod_eq_of_lt (show 1 < 2 ^ 64 by decide), Nat.and_one_is_mod]
  exact IntWalk.i64_in _ (by omega)
set_option maxRecDepth 100000 in
set_option maxHeartbeats 4000000 in
/-- the loop, for an exponent that is not negative -/
theorem exp_pos (a : Int) (E : Nat) (w : World) (ha : -9223372036854775808 ≤ a ∧ a ≤ 9223372036854775807) (hE : E < 9223372036854775808) :
    Calls Tryz.prog 66 #[.int .i64 a, .int .i64 E] w fun e w' => e = .returned (.int .i64 (resN a gP ^ E % gP : Nat)) ∧ ∃ n, w' = w.drewN n := by
  obtain ⟨x, hx⟩ : ∃ x, x = resN a gP := ⟨_, rfl⟩
  have HX := Lib.hid hx
  rw [← hx]
  clear hx
  go_enter Tryz.func66, Tryz.ntmps66
  go_wp2_with fail
  go_loopw [5, 11] (fun pv iv wr => ∃ k n : Nat, k ≤ 63 ∧ iv = .int .i64 k ∧ pv = .int .i64 (x ^ (E / 2 ^ (63 - k)) % gP : Nat) ∧ wr = w.drewN n) (fun _ iv _ => 63 - (intOf iv).toNat)
  case atStart =>
    refine ⟨0, 0, by omega, rfl, ?_, rfl⟩
    rw [Nat.sub_zero, Nat.div_eq_of_lt (show E < 2 ^ 63 from hE), Nat.pow_zero]
    rfl
  case round =>
    obtain ⟨k, n, hk, rfl, rfl, rfl⟩ := hrel
    obtain ⟨p, hp⟩ : ∃ p, p = x ^ (E / 2 ^ (63 - k)) % gP := ⟨_, rfl⟩
    have hpb : p < 2305843009213691579 := by rw [hp]; exact lt_p _
    have HP := Lib.hid hp
    rw [← hp]
    clear hp
    by_cases hlt : k < 63
    · obtain ⟨t, ht⟩ : ∃ t, t = E / 2 ^ (62 - k) := ⟨_, rfl⟩
      have htE : t < 9223372036854775808 := by rw [ht]; exact Nat.lt_of_le_of_lt (Nat.div_le_self _ _) hE
      obtain ⟨bt, hbt⟩ : ∃ bt, bt = t % 2 := ⟨_, rfl⟩
      have FT : (E : Int) / 2 ^ (62 - k) = (t : Int) := by rw [ht, Int.natCast_ediv, Int.natCast_pow]; rfl
      have FB : bits .and .i64 (t : Int) 1 = (bt : Int) := by rw [hbt]; exact and1 t htE
      have hst := half_step E k hlt
      rw [← ht] at hst
      have hsq := sq_step x gP t bt hbt
      rw [show t / 2 = E / 2 ^ (63 - k) by omega, ← HP.out] at hsq
      have HSQ := Lib.hid hsq
      have hk1 : 63 - (k + 1) = 62 - k := by omega
      have HT : Hid (E / 2 ^ (63 - (k + 1)) = t) := Lib.hid (by rw [hk1, ht])
      have HA := Lib.hid ha
      clear hst hsq ht hk1 ha
      by_cases hb1 : bt = 1
      · have T1 : ((bt : Int) == 1) = true := by rw [beq_iff_eq]; omega
        have HB1 := Lib.hid hb1
        clear hb1 hbt
        go_wp2_with fail
        refine (mul_any p p _ (by omega) (by omega)).mono ?_
        rintro e w1 ⟨rfl, n1, rfl⟩
        have hm := mulN_lt p p (show 0 < gP by decide)
        have HM : Hid (mulN p p gP = p * p % gP) := Lib.hid (by unfold mulN; rw [resN_of (show p < gP from hpb)])
        obtain ⟨m, hmm⟩ : ∃ m, m = mulN p p gP := ⟨_, rfl⟩
        have hmb : m < 2305843009213691579 := by rw [hmm]; exact hm
        rw [← hmm] at HM ⊢
        clear hm hmm
        go_wp2_with fail
        refine (mul_any m a _ (by omega) HA.out).mono ?_
        rintro e w1 ⟨rfl, n2, rfl⟩
        have HR : Hid (mulN m a gP = x ^ t % gP) := Lib.hid (by
          unfold mulN
          rw [resN_of (show m < gP from hmb), ← HX.out, HSQ.out, HM.out, if_pos HB1.out])
        obtain ⟨z, hz⟩ : ∃ z, z = x ^ t % gP := ⟨_, rfl⟩
        have HZ := Lib.hid hz
        rw [HR.out, ← hz]
        clear hz
        go_wp2_with fail
        go_roundw
        case rel => exact ⟨k + 1, n + n1 + n2, by omega, by go_num, by rw [HT.out, ← HZ.out], by simp [World.drewN, Nat.add_assoc]⟩
        case measure => simp [intOf]; omega
      · have T1 : ((bt : Int) == 1) = false := by rw [beq_eq_false_iff_ne]; omega
        have HB1 := Lib.hid hb1
        clear hb1 hbt
        go_wp2_with fail
        refine (mul_any p p _ (by omega) (by omega)).mono ?_
        rintro e w1 ⟨rfl, n1, rfl⟩
        have HR : Hid (mulN p p gP = x ^ t % gP) := Lib.hid (by
          unfold mulN
          rw [resN_of (show p < gP from hpb), HSQ.out, if_neg HB1.out, Nat.mul_one, Nat.mod_mod])
        obtain ⟨z, hz⟩ : ∃ z, z = x ^ t % gP := ⟨_, rfl⟩
        have HZ := Lib.hid hz
        rw [HR.out, ← hz]
        clear hz
        go_wp2_with fail
        go_roundw
        case rel => exact ⟨k + 1, n + n1, by omega, by go_num, by rw [HT.out, ← HZ.out], by simp [World.drewN]⟩
        case measure => simp [intOf]; omega
    · obtain rfl : k = 63 := by omega
      have HR : Hid (p = x ^ E % gP) := Lib.hid (by rw [HP.out]; simp)
      go_wp2_with fail
      go_ret
      exact ⟨by rw [← HR.out]; rfl, n, rfl⟩
set_option maxRecDepth 100000 in
set_option maxHeartbeats 4000000 in
theorem exp_any (a e0 : Int) (w : World) (ha : -9223372036854775808 ≤ a ∧ a ≤ 9223372036854775807) (he : 0 ≤ e0 ∧ e0 ≤ 9223372036854775807) :
    Calls Tryz.prog 66 #[.int .i64 a, .int .i64 e0] w fun e w' => e = .returned (.int .i64 (resN a gP ^ e0.toNat % gP : Nat)) ∧ ∃ n, w' = w.drewN n := by
  obtain ⟨E, rfl⟩ : ∃ E : Nat, e0 = E := ⟨e0.toNat, by omega⟩
  rw [Int.toNat_natCast]
  exact exp_pos a E w ha (by omega)
end Go.Proofs.YtgjklfddoechpaaGreatDoor
/- group.In, Inv, AddQ. -/
namespace Go.Proofs.YtgjklfddoechpaaGreatDoor
open Go.RowKit
def InG (y : Int) : Prop := 1 ≤ y ∧ y < 2305843009213691579 ∧ y.toNat ^ gQ % gP = 1
instance (y : Int) : Decidable (InG y) := by
  unfold InG
  exact @instDecidableAnd _ _ _ (@instDecidableAnd _ _ _ (Nat.decEq _ _))
theorem resN_in {y : Int} (h1 : 1 ≤ y) (h2 : y < 2305843009213691579) : resN y gP = y.toNat := by
  obtain ⟨n, rfl⟩ : ∃ n : Nat, y = n := ⟨y.toNat, by omega⟩
  rw [Int.toNat_natCast]
  exact resN_of (show n < 2305843009213691579 by omega)
set_option maxRecDepth 100000 in
set_option maxHeartbeats 2000000 in
theorem in_any (y : Int) (w : World) (hy : -9223372036854775808 ≤ y ∧ y ≤ 9223372036854775807) :
    ∃ b : Bool, (b = true ↔ InG y) ∧ Calls Tryz.prog 111 #[.int .i64 y] w fun e w' => e = .returned (.bool b) ∧ ∃ n, w' = w.drewN n := by
  by_cases h1 : 1 ≤ y
  · by_cases h2 : y < 2305843009213691579
    · obtain ⟨z, hz⟩ : ∃ z, z = resN y gP ^ (1152921504606845789 : Int).toNat % gP := ⟨_, rfl⟩
      have hz2 : z = y.toNat ^ gQ % gP := by rw [hz, resN_in h1 h2]; rfl
      have HZ := Lib.hid hz
      have HY := Lib.hid hy
      clear hz hy
      have t1 : decide (1 ≤ y) = true := decide_eq_true h1
      have t2 : decide (y < 2305843009213691579) = true := decide_eq_true h2
      by_cases h3 : z = 1
      · refine ⟨true, ⟨fun _ => ⟨h1, h2, by rw [← hz2]; exact h3⟩, fun _ => rfl⟩, ?_⟩
        have H3 := Lib.hid h3
        have t3 : ((z : Int) == 1) = true := by rw [beq_iff_eq]; omega
        clear h1 h2 h3 hz2
        go_enter Tryz.func111, Tryz.ntmps111
        go_wp2_with fail
        refine (exp_any y 1152921504606845789 _ HY.out (by decide)).mono ?_
        rintro e w1 ⟨rfl, n, rfl⟩
        rw [← HZ.out]
        go_wp2_with fail
        go_ret
        exact ⟨rfl, n, rfl⟩
      · refine ⟨false, ⟨(fun h => by cases h), fun h => absurd (hz2.trans h.2.2) h3⟩, ?_⟩
        have t3 : ((z : Int) == 1) = false := by rw [beq_eq_false_iff_ne]; omega
        clear h1 h2 h3 hz2
        go_enter Tryz.func111, Tryz.ntmps111
        go_wp2_with fail
        refine (exp_any y 1152921504606845789 _ HY.out (by decide)).mono ?_
        rintro e w1 ⟨rfl, n, rfl⟩
        rw [← HZ.out]
        go_wp2_with fail
        go_ret
        exact ⟨rfl, n, rfl⟩
    · refine ⟨false, ⟨(fun h => by cases h), fun h => absurd h.2.1 h2⟩, ?_⟩
      have t1 : decide (1 ≤ y) = true := decide_eq_true h1
      have t2 : decide (y < 2305843009213691579) = false := decide_eq_false h2
      clear h1 h2
      go_enter Tryz.func111, Tryz.ntmps111
      go_wp2_with fail
      go_ret
      exact ⟨rfl, 0, rfl⟩
  · refine ⟨false, ⟨(fun h => by cases h), fun h => absurd h.1 h1⟩, ?_⟩
    have t1 : decide (1 ≤ y) = false := decide_eq_false h1
    clear h1
    go_enter Tryz.func111, Tryz.ntmps111
    go_wp2_with fail
    go_ret
    exact ⟨rfl, 0, rfl⟩
set_option maxRecDepth 100000 in
set_option maxHeartbeats 2000000 in
theorem addQ_any (a b : Int) (w : World) (ha : -9223372036854775808 ≤ a ∧ a ≤ 9223372036854775807) (hb : -9223372036854775808 ≤ b ∧ b ≤ 9223372036854775807) :
    Calls Tryz.prog 106 #[.int .i64 a, .int .i64 b] w fun e w' => e = .returned (.int .i64 ((resN a gQ + resN b gQ) % gQ : Nat)) ∧ w' = w := by
  obtain ⟨x, hx⟩ : ∃ x, x = resN a gQ := ⟨_, rfl⟩
  obtain ⟨y, hy⟩ : ∃ y, y = resN b gQ := ⟨_, rfl⟩
  have hxm : x < 1152921504606845789 := by rw [hx]; exact resN_lt a (show 0 < gQ by decide)
  have hym : y < 1152921504606845789 := by rw [hy]; exact resN_lt b (show 0 < gQ by decide)
  obtain ⟨z, hz⟩ : ∃ z, z = (x + y) % gQ := ⟨_, rfl⟩
  have FZ : ((x : Int) + (y : Int)) % 1152921504606845789 = (z : Int) := by rw [hz]; exact (Int.natCast_emod (x + y) gQ).symm
  have HX := Lib.hid hx
  have HY := Lib.hid hy
  have HZ := Lib.hid hz
  have HA := Lib.hid ha
  have HB := Lib.hid hb
  rw [← hx, ← hy, ← hz]
  clear hx hy hz ha hb
  go_enter Tryz.func106, Tryz.ntmps106
  go_wp2_with fail
  refine (residue_any a gQ _ HA.out (by decide) (by decide)).mono ?_
  rintro e w1 ⟨rfl, rfl⟩
  rw [← HX.out]
  go_wp2_with fail
  refine (residue_any b gQ _ HB.out (by decide) (by decide)).mono ?_
  rintro e w1 ⟨rfl, rfl⟩
  rw [← HY.out]
  go_wp2_with fail
  go_ret
  exact ⟨congrArg (fun v => Ending.returned (Value.int .i64 v)) FZ, rfl⟩
end Go.Proofs.YtgjklfddoechpaaGreatDoor
