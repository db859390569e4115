/- digest.Crc returns the CRC-16 of HDLC as the plain function crcL says, for every string. -/
import Derived.Test.YtmlfkhpmgjcliaaDoorBase
namespace Go.Proofs.YtmlfkhpmgjcliaaDoor
open Go.RowKit
theorem i64_xor_nat (a b : Nat) (ha : a < 4611686018427387904) (hb : b < 4611686018427387904) : bits .xor .i64 (a : Int) (b : Int) = ((a ^^^ b : Nat) : Int) := by
  have hx : a ^^^ b < 2 ^ 62 := Nat.xor_lt_two_pow (by omega) (by omega)
  show IntKind.i64.wrap ((BitVec.ofInt 64 (a : Int) ^^^ BitVec.ofInt 64 (b : Int)).toNat : Int) = _
  rw [BitVec.toNat_xor, BitVec.ofInt_natCast, BitVec.ofInt_natCast, BitVec.toNat_ofNat, BitVec.toNat_ofNat, Nat.mod_eq_of_lt (by omega), Nat.mod_eq_of_lt (by omega)]
  exact IntWalk.i64_in _ (by omega)
def crcBit (r : Nat) : Nat := if r % 2 = 1 then (r / 2) ^^^ 33800 else r / 2
def crcBits : Nat → Nat → Nat
  | 0, r => r
  | n + 1, r => crcBit (crcBits n r)
def crcByte (r : Nat) (b : UInt8) : Nat := crcBits 8 (r ^^^ b.toNat)
/-- the register after a list of bytes -/
def crcReg (l : List UInt8) : Nat := l.foldl crcByte 65535
def crcL (l : List UInt8) : Nat := crcReg l ^^^ 65535
theorem xor_lt16 {a b : Nat} (ha : a < 65536) (hb : b < 65536) : a ^^^ b < 65536 := Nat.xor_lt_two_pow (n := 16) ha hb
theorem crcBit_lt {r : Nat} (h : r < 65536) : crcBit r < 65536 := by
  unfold crcBit
  split
  · exact xor_lt16 (by omega) (by omega)
  · omega
theorem crcBits_lt {r : Nat} (h : r < 65536) (n : Nat) : crcBits n r < 65536 := by
  induction n with
  | zero => exact h
  | succ n ih => exact crcBit_lt ih
theorem crcByte_lt {r : Nat} (h : r < 65536) (b : UInt8) : crcByte r b < 65536 := crcBits_lt (xor_lt16 h (by have := b.toNat_lt; omega)) 8
theorem foldl_crc_lt (l : List UInt8) : ∀ {r : Nat}, r < 65536 → l.foldl crcByte r < 65536 := by
  induction l with
  | nil => intro r h; exact h
  | cons b l ih => intro r h; exact ih (crcByte_lt h b)
theorem crcReg_lt (l : List UInt8) : crcReg l < 65536 := foldl_crc_lt l (by omega)
theorem crcL_lt (l : List UInt8) : crcL l < 65536 := xor_lt16 (crcReg_lt l) (by omega)
theorem crcReg_take (l : List UInt8) (k : Nat) (h : k < l.length) : crcReg (l.take (k + 1)) = crcByte (crcReg (l.take k)) l[k] := by
  rw [List.take_succ_eq_append_getElem h]
  unfold crcReg
  rw [List.foldl_append]
  rfl
set_option maxHeartbeats 400000 in
theorem crc_any (s : ByteArray) (w : World) (hs : s.size ≤ maxLen) :
    Calls Tryd.prog 44 #[.string s] w fun e w' => e = .returned (.int .i64 (crcL s.data.toList : Nat)) ∧ w = w' := by
  unfold maxLen at hs
  go_enter Tryd.func44, Tryd.ntmps44
  go_wp2_with fail
  go_loop [3, 8] (fun r i => ∃ k : Nat, k ≤ s.size ∧ i = .int .i64 k ∧ r = .int .i64 (crcReg (s.data.toList.take k) : Nat)) (fun _ i => s.size - (intOf i).toNat)
  case atStart => exact ⟨0, Nat.zero_le _, rfl, rfl⟩
  case round =>
    obtain ⟨k, hk, rfl, rfl⟩ := hrel
    have hr := crcReg_lt (s.data.toList.take k)
    by_cases hlt : k < s.size
    · have hT0 := crcReg_take s.data.toList k (by simpa using hlt)
      have hT : Hid (crcReg (s.data.toList.take (k + 1)) = crcBits 8 (crcReg (s.data.toList.take k) ^^^ s[k].toNat)) := hT0
      clear hT0
      generalize crcReg (s.data.toList.take k) = r at *
      have hb := (s[k]).toNat_lt
      have hx : bits BinOp.xor IntKind.i64 (r : Int) (s[k].toNat : Int) = ((r ^^^ s[k].toNat : Nat) : Int) := i64_xor_nat _ _ (by omega) (by omega)
      have hrx : r ^^^ s[k].toNat < 65536 := xor_lt16 hr (by omega)
      go_wp2_with fail
      generalize r ^^^ s[k].toNat = q at *
      clear hx hb hr
      go_loop [3, 17] (fun r i => ∃ j : Nat, j ≤ 8 ∧ i = .int .i64 j ∧ r = .int .i64 (crcBits j q : Nat)) (fun _ i => 8 - (intOf i).toNat)
      case atStart => exact ⟨0, by omega, rfl, rfl⟩
      case round =>
        obtain ⟨j, hj, rfl, rfl⟩ := hrel
        have hr := crcBits_lt hrx j
        have HJ : Hid (crcBits (j + 1) q = crcBit (crcBits j q)) := rfl
        by_cases hl2 : j < 8
        · generalize crcBits j q = p at *
          by_cases ho : p % 2 = 1
          · have h1 : (((p : Int) % 2) == 1) = true := beq_iff_eq.2 (by omega)
            have hx : bits BinOp.xor IntKind.i64 ((p : Int) / 2) 33800 = ((p / 2 ^^^ 33800 : Nat) : Int) := i64_xor_nat (p / 2) 33800 (by omega) (by omega)
            have HE : Hid (crcBit p = p / 2 ^^^ 33800) := if_pos ho
            clear ho
            go_wp2_with fail
            go_round
            case rel => exact ⟨j + 1, by omega, by go_num, by rw [HJ.out, HE.out]⟩
            case measure => simp [intOf]; omega
          · have h1 : (((p : Int) % 2) == 1) = false := beq_eq_false_iff_ne.2 (by omega)
            have HE : Hid (crcBit p = p / 2) := if_neg ho
            clear ho
            go_wp2_with fail
            go_round
            case rel => exact ⟨j + 1, by omega, by go_num, by rw [HJ.out, HE.out]; rfl⟩
            case measure => simp [intOf]; omega
        · obtain rfl : j = 8 := by omega
          clear hl2 hj HJ
          rw [← hT.out] at hr ⊢
          go_wp2_with fail
          go_round
          case rel => exact ⟨k + 1, by omega, by go_num, rfl⟩
          case measure => simp [intOf]; omega
    · obtain rfl : k = s.size := by omega
      clear hlt hk
      have ht : s.data.toList.take s.size = s.data.toList := List.take_of_length_le (by simp)
      rw [ht] at hr ⊢
      have hx : bits BinOp.xor IntKind.i64 (crcReg s.data.toList : Int) 65535 = ((crcReg s.data.toList ^^^ 65535 : Nat) : Int) := i64_xor_nat _ 65535 (by omega) (by omega)
      go_wp2_with fail
      go_ret
      exact ⟨rfl, rfl⟩
end Go.Proofs.YtmlfkhpmgjcliaaDoor
