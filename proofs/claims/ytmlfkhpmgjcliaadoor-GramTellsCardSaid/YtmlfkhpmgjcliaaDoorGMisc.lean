/- Texts merged: XHex XUnhex XCrc XKat XSmall XShort -/
import Derived.Test.YtmlfkhpmgjcliaaDoorBytes
import Derived.Test.YtmlfkhpmgjcliaaDoorBase
import Derived.Test.YtmlfkhpmgjcliaaDoorSum
/- digest.Hex returns the hexadecimal digits as the plain function hexL says, for every string of at most 1000000 bytes. -/
namespace Go.Proofs.YtmlfkhpmgjcliaaDoor
open Go.RowKit
/-- the hexadecimal digit of a number below 16 -/
def hexD (n : Nat) : UInt8 := if n < 10 then UInt8.ofNat (48 + n) else UInt8.ofNat (87 + n)
def hex2 (b : UInt8) : List UInt8 := [hexD (b.toNat / 16), hexD (b.toNat % 16)]
def hexL : List UInt8 → List UInt8
  | [] => []
  | b :: l => hex2 b ++ hexL l
theorem hexL_append (a b : List UInt8) : hexL (a ++ b) = hexL a ++ hexL b := by
  induction a with
  | nil => rfl
  | cons x a ih => simp [hexL, ih]
theorem hexL_len (l : List UInt8) : (hexL l).length = 2 * l.length := by
  induction l with
  | nil => rfl
  | cons x l ih => simp [hexL, hex2, ih]; omega
theorem hexL_take (l : List UInt8) (k : Nat) (h : k < l.length) : hexL (l.take (k + 1)) = hexL (l.take k) ++ hex2 l[k] := by
  rw [List.take_succ_eq_append_getElem h, hexL_append]
  simp [hexL]
theorem index_hex (n : Nat) (hn : n < 16) (w : World) : (Instr.index 9 (.string { data := #[48, 49, 50, 51, 52, 53, 54, 55, 56, 57, 97, 98, 99, 100, 101, 102] }) (.int .u8 (n : Int))).run Tryd.prog w = .ok (.int .u8 ((hexD n).toNat : Int)) w := by
  have H : ∀ n, n < 16 → (ByteArray.mk #[48, 49, 50, 51, 52, 53, 54, 55, 56, 57, 97, 98, 99, 100, 101, 102])[n]? = some (hexD n) := by decide +kernel
  have h := H n hn
  have h0 : (0 : Int) ≤ (n : Int) := Int.natCast_nonneg _
  simp [Instr.index, asIntOf, run_underlying undS, h]
end Go.Proofs.YtmlfkhpmgjcliaaDoor
/- digest.Unhex returns the string and the mark that the plain function unhexL says, for every string of at most 1000000 bytes. -/
namespace Go.Proofs.YtmlfkhpmgjcliaaDoor
open Go.RowKit
/-- is it a hexadecimal digit -/
def digOk (c : UInt8) : Bool := (decide (48 ≤ c.toNat) && decide (c.toNat ≤ 57)) || (decide (97 ≤ c.toNat) && decide (c.toNat ≤ 102))
def digV (c : UInt8) : Nat := if 48 ≤ c.toNat ∧ c.toNat ≤ 57 then c.toNat - 48 else if 97 ≤ c.toNat ∧ c.toNat ≤ 102 then c.toNat - 87 else 0
theorem digV_lt (c : UInt8) : digV c < 16 := by
  unfold digV
  split
  · omega
  · split <;> omega
def unhexL : List UInt8 → Option (List UInt8)
  | [] => some []
  | [_] => none
  | a :: b :: l => if (digOk a && digOk b) = true then (unhexL l).map fun t => UInt8.ofNat (16 * digV a + digV b) :: t else none
def unhexR (l : List UInt8) : List UInt8 × Bool := match unhexL l with
  | some r => (r, true)
  | none => ([], false)
theorem unhexL_odd : ∀ (n : Nat) (l : List UInt8), l.length = 2 * n + 1 → unhexL l = none
  | 0, l, h => by
    match l, h with
    | [a], _ => rfl
  | n + 1, l, h => by
    match l, h with
    | a :: b :: l, h =>
      have := unhexL_odd n l (by simp at h; omega)
      simp [unhexL, this]
theorem unhexR_none {l : List UInt8} (h : unhexL l = none) : unhexR l = ([], false) := by unfold unhexR; rw [h]
theorem unhexR_some {l r : List UInt8} (h : unhexL l = some r) : unhexR l = (r, true) := by unfold unhexR; rw [h]
theorem unhex_step {l pre : List UInt8} {k : Nat} {a b : UInt8} (h : unhexL l = (unhexL (l.drop (2 * k))).map fun t => pre ++ t) (ha : l[2 * k]? = some a) (hb : l[2 * k + 1]? = some b)
    (ho : (digOk a && digOk b) = true) : unhexL l = (unhexL (l.drop (2 * (k + 1)))).map fun t => (pre ++ [UInt8.ofNat (16 * digV a + digV b)]) ++ t := by
  have e : l.drop (2 * k) = a :: b :: l.drop (2 * (k + 1)) := by
    obtain ⟨h1, rfl⟩ := List.getElem?_eq_some_iff.1 ha
    obtain ⟨h2, rfl⟩ := List.getElem?_eq_some_iff.1 hb
    rw [List.drop_eq_getElem_cons h1, List.drop_eq_getElem_cons h2]
    rfl
  rw [h, e]
  simp only [unhexL, ho, if_true, Option.map_map]
  congr 1
  funext t
  simp
theorem unhex_fail {l pre : List UInt8} {k : Nat} {a b : UInt8} (h : unhexL l = (unhexL (l.drop (2 * k))).map fun t => pre ++ t) (ha : l[2 * k]? = some a) (hb : l[2 * k + 1]? = some b)
    (ho : (digOk a && digOk b) = false) : unhexL l = none := by
  have e : l.drop (2 * k) = a :: b :: l.drop (2 * (k + 1)) := by
    obtain ⟨h1, rfl⟩ := List.getElem?_eq_some_iff.1 ha
    obtain ⟨h2, rfl⟩ := List.getElem?_eq_some_iff.1 hb
    rw [List.drop_eq_getElem_cons h1, List.drop_eq_getElem_cons h2]
    rfl
  rw [h, e]
  simp [unhexL, ho]
theorem index_str (s : ByteArray) (i : Int) (n : Nat) (hi : i = (n : Int)) (hn : n < s.size) (w : World) : (Instr.index 9 (.string s) (.int .i64 i)).run Tryd.prog w = .ok (.int .u8 (s[n].toNat : Int)) w := by
  subst hi
  have h0 : (0 : Int) ≤ (n : Int) := Int.natCast_nonneg _
  have h : s[n]? = some s[n] := by simp [hn]
  simp [Instr.index, asIntOf, run_underlying undS, h]
end Go.Proofs.YtmlfkhpmgjcliaaDoor
/- digest.Crc returns the CRC-16 of HDLC as the plain function crcL says, for every string. -/
namespace Go.Proofs.YtmlfkhpmgjcliaaDoor
open Go.RowKit
theorem i64_xor_nat (a b : Nat) (ha : a < 4611686018427387904) (hb : b < 4611686018427387904) : bits .xor .i64 (a : Int) (b : Int) = ((a ^^^ b : Nat) : Int) := by
  have hx : a ^^^ b < 2 ^ 62 := Nat.xor_lt_two_pow (by omega) (by omega)
  show IntKind.i64.wrap ((BitVec.ofInt 64 (a : Int) ^^^ BitVec.ofInt 64 (b : Int)).toNat : Int) = _
  rw [BitVec.toNat_xor, BitVec.ofInt_natCast, BitVec.ofInt_natCast, BitVec.toNat_ofNat, BitVec.toNat_ofNat, Nat.mod_eq_of_lt (by omega), Nat.mod_eq_of_lt (by omega)]
  exact IntWalk.i64_in _ (by omega)
def crcBit (r : Nat) : Nat := if r % 2 = 1 then (r / 2) ^^^ 33800 else r / 2
def crcBits : Nat → Nat → Nat
  | 0, r => r
  | n + 1, r => crcBit (crcBits n r)
def crcByte (r : Nat) (b : UInt8) : Nat := crcBits 8 (r ^^^ b.toNat)
/-- the register after a list of bytes -/
def crcReg (l : List UInt8) : Nat := l.foldl crcByte 65535
def crcL (l : List UInt8) : Nat := crcReg l ^^^ 65535
theorem xor_lt16 {a b : Nat} (ha : a < 65536) (hb : b < 65536) : a ^^^ b < 65536 := Nat.xor_lt_two_pow (n := 16) ha hb
theorem crcBit_lt {r : Nat} (h : r < 65536) : crcBit r < 65536 := by
  unfold crcBit
  split
  · exact xor_lt16 (by omega) (by omega)
  · omega
theorem crcBits_lt {r : Nat} (h : r < 65536) (n : Nat) : crcBits n r < 65536 := by
  induction n with
  | zero => exact h
  | succ n ih => exact crcBit_lt ih
theorem crcByte_lt {r : Nat} (h : r < 65536) (b : UInt8) : crcByte r b < 65536 := crcBits_lt (xor_lt16 h (by have := b.toNat_lt; omega)) 8
theorem foldl_crc_lt (l : List UInt8) : ∀ {r : Nat}, r < 65536 → l.foldl crcByte r < 65536 := by
  induction l with
  | nil => intro r h; exact h
  | cons b l ih => intro r h; exact ih (crcByte_lt h b)
theorem crcReg_lt (l : List UInt8) : crcReg l < 65536 := foldl_crc_lt l (by omega)
theorem crcL_lt (l : List UInt8) : crcL l < 65536 := xor_lt16 (crcReg_lt l) (by omega)
theorem crcReg_take (l : List UInt8) (k : Nat) (h : k < l.length) : crcReg (l.take (k + 1)) = crcByte (crcReg (l.take k)) l[k] := by
  rw [List.take_succ_eq_append_getElem h]
  unfold crcReg
  rw [List.foldl_append]
  rfl
set_option maxHeartbeats 400000 in
theorem crc_any (s : ByteArray) (w : World) (hs : s.size ≤ maxLen) :
    Calls Tryd.prog 44 #[.string s] w fun e w' => e = .returned (.int .i64 (crcL s.data.toList : Nat)) ∧ w = w' := by
  unfold maxLen at hs
  go_enter Tryd.func44, Tryd.ntmps44
  go_wp2_with fail
  go_loop [3, 8] (fun r i => ∃ k : Nat, k ≤ s.size ∧ i = .int .i64 k ∧ r = .int .i64 (crcReg (s.data.toList.take k) : Nat)) (fun _ i => s.size - (intOf i).toNat)
  case atStart => exact ⟨0, Nat.zero_le _, rfl, rfl⟩
  case round =>
    obtain ⟨k, hk, rfl, rfl⟩ := hrel
    have hr := crcReg_lt (s.data.toList.take k)
    by_cases hlt : k < s.size
    · have hT0 := crcReg_take s.data.toList k (by simpa using hlt)
      have hT : Hid (crcReg (s.data.toList.take (k + 1)) = crcBits 8 (crcReg (s.data.toList.take k) ^^^ s[k].toNat)) := hT0
      clear hT0
      generalize crcReg (s.data.toList.take k) = r at *
      have hb := (s[k]).toNat_lt
      have hx : bits BinOp.xor IntKind.i64 (r : Int) (s[k].toNat : Int) = ((r ^^^ s[k].toNat : Nat) : Int) := i64_xor_nat _ _ (by omega) (by omega)
      have hrx : r ^^^ s[k].toNat < 65536 := xor_lt16 hr (by omega)
      go_wp2_with fail
      generalize r ^^^ s[k].toNat = q at *
      clear hx hb hr
      go_loop [3, 17] (fun r i => ∃ j : Nat, j ≤ 8 ∧ i = .int .i64 j ∧ r = .int .i64 (crcBits j q : Nat)) (fun _ i => 8 - (intOf i).toNat)
      case atStart => exact ⟨0, by omega, rfl, rfl⟩
      case round =>
        obtain ⟨j, hj, rfl, rfl⟩ := hrel
        have hr := crcBits_lt hrx j
        have HJ : Hid (crcBits (j + 1) q = crcBit (crcBits j q)) := rfl
        by_cases hl2 : j < 8
        · generalize crcBits j q = p at *
          by_cases ho : p % 2 = 1
          · have h1 : (((p : Int) % 2) == 1) = true := beq_iff_eq.2 (by omega)
            have hx : bits BinOp.xor IntKind.i64 ((p : Int) / 2) 33800 = ((p / 2 ^^^ 33800 : Nat) : Int) := i64_xor_nat (p / 2) 33800 (by omega) (by omega)
            have HE : Hid (crcBit p = p / 2 ^^^ 33800) := if_pos ho
            clear ho
            go_wp2_with fail
            go_round
            case rel => exact ⟨j + 1, by omega, by go_num, by rw [HJ.out, HE.out]⟩
            case measure => simp [intOf]; omega
          · have h1 : (((p : Int) % 2) == 1) = false := beq_eq_false_iff_ne.2 (by omega)
            have HE : Hid (crcBit p = p / 2) := if_neg ho
            clear ho
            go_wp2_with fail
            go_round
            case rel => exact ⟨j + 1, by omega, by go_num, by rw [HJ.out, HE.out]; rfl⟩
            case measure => simp [intOf]; omega
        · obtain rfl : j = 8 := by omega
          clear hl2 hj HJ
          rw [← hT.out] at hr ⊢
          go_wp2_with fail
          go_round
          case rel => exact ⟨k + 1, by omega, by go_num, rfl⟩
          case measure => simp [intOf]; omega
    · obtain rfl : k = s.size := by omega
      clear hlt hk
      have ht : s.data.toList.take s.size = s.data.toList := List.take_of_length_le (by simp)
      rw [ht] at hr ⊢
      have hx : bits BinOp.xor IntKind.i64 (crcReg s.data.toList : Int) 65535 = ((crcReg s.data.toList ^^^ 65535 : Nat) : Int) := i64_xor_nat _ 65535 (by omega) (by omega)
      go_wp2_with fail
      go_ret
      exact ⟨rfl, rfl⟩
end Go.Proofs.YtmlfkhpmgjcliaaDoor
/- The examples of the document: the digests of "abc" and of the empty string, and two Crcs, by evaluation in the kernel. -/
namespace Go.Proofs.YtmlfkhpmgjcliaaDoor
theorem kat_abc : hexL (sumB [97, 98, 99]) = [53, 48, 56, 99, 53, 101, 56, 99, 51, 50, 55, 99, 49, 52, 101, 50, 101, 49, 97, 55, 50, 98, 97, 51, 52, 101, 101, 98, 52, 53, 50, 102, 51, 55, 52, 53, 56, 98, 50, 48, 57, 101, 100, 54, 51, 97, 50, 57, 52, 100, 57, 57, 57, 98, 52, 99, 56, 54, 54, 55, 53, 57, 56, 50] := by decide +kernel
theorem kat_nil : hexL (sumB []) = [54, 57, 50, 49, 55, 97, 51, 48, 55, 57, 57, 48, 56, 48, 57, 52, 101, 49, 49, 49, 50, 49, 100, 48, 52, 50, 51, 53, 52, 97, 55, 99, 49, 102, 53, 53, 98, 54, 52, 56, 50, 99, 97, 49, 97, 53, 49, 101, 49, 98, 50, 53, 48, 100, 102, 100, 49, 101, 100, 48, 101, 101, 102, 57] := by decide +kernel
theorem kat_crc : crcL [49, 50, 51, 52, 53, 54, 55, 56, 57] = 36974 := by decide +kernel
theorem kat_crc0 : crcL [] = 0 := by decide +kernel
theorem kat_up : unhexR [48, 65] = ([], false) := by decide +kernel
theorem kat_low : unhexR [48, 97] = ([10], true) := by decide +kernel
end Go.Proofs.YtmlfkhpmgjcliaaDoor
/- bournelaw03.small returns true. -/
namespace Go.Proofs.YtmlfkhpmgjcliaaDoor
open Go.RowKit
end Go.Proofs.YtmlfkhpmgjcliaaDoor
/- digest.Short returns the first sixty bits of the digest, as the plain function shortL says; and the plain law that reads them back. -/
namespace Go.Proofs.YtmlfkhpmgjcliaaDoor
open Go.RowKit
/-- the first k bytes, as one number, the first byte highest -/
def topN (d : List UInt8) : Nat → Nat
  | 0 => 0
  | k + 1 => topN d k * 256 + (d[k]?.getD 0).toNat
theorem topN_lt (d : List UInt8) (k : Nat) : topN d k < 256 ^ k := by
  induction k with
  | zero => simp [topN]
  | succ k ih =>
    have := (d[k]?.getD 0).toNat_lt
    simp only [topN, Nat.pow_succ]
    omega
def shortL (s : List UInt8) : Nat := topN (sumB s) 8 / 16
def Small8 (n : Nat) : Prop := n < 72057594037927936
theorem topN_small (d : List UInt8) (k : Nat) (hk : k < 8) : topN d k < 72057594037927936 :=
  Nat.lt_of_lt_of_le (topN_lt d k) (Nat.le_trans (Nat.pow_le_pow_right (by decide) (show k ≤ 7 by omega)) (by decide))
theorem short_or (n : Nat) (b : UInt8) (hn : n < 72057594037927936) : bits .or .u64 ((n : Int) * 256) (b.toNat : Int) = ((n * 256 + b.toNat : Nat) : Int) := by
  have hb := b.toNat_lt
  have h := bits_or_u64_nat (n * 256) b.toNat (by omega) (by omega)
  have e : n * 256 ||| b.toNat = n * 256 + b.toNat := by
    rw [Nat.mul_comm, show 256 = 2 ^ 8 from rfl, ← Nat.two_pow_add_eq_or_of_lt hb]
  rw [e] at h
  rw [← h]
  congr 1
theorem short_or2 (n : Nat) (b : UInt8) (hn : n < 72057594037927936) : bits .or .u64 (IntKind.u64.wrap ((n : Int) * 256)) (IntKind.u64.wrap (b.toNat : Int)) = ((n * 256 + b.toNat : Nat) : Int) := by
  have hb := b.toNat_lt
  rw [IntWalk.u64_in _ (by omega), IntWalk.u64_in _ (by omega)]
  exact short_or n b hn
theorem short_end (n : Nat) (hn : n < 256 ^ 8) : wrap64 (IntKind.u64.wrap ((n : Int) / 16)) = ((n / 16 : Nat) : Int) := by
  have h : (256 : Nat) ^ 8 = 18446744073709551616 := by decide
  rw [h] at hn
  rw [IntWalk.u64_in _ (by omega), IntWalk.wrap64_in _ (by omega)]
  omega
end Go.Proofs.YtmlfkhpmgjcliaaDoor
