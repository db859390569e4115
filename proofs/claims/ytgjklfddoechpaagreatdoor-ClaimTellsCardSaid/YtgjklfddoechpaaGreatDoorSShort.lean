/- digest.Short returns the first sixty bits of the digest, as the plain function shortL says. -/
import Derived.Test.YtgjklfddoechpaaGreatDoorSum
namespace Go.Proofs.YtgjklfddoechpaaGreatDoor
open Go.RowKit
/-- the first k bytes, as one number, the first byte highest -/
def topN (d : List UInt8) : Nat → Nat
  | 0 => 0
  | k + 1 => topN d k * 256 + (d[k]?.getD 0).toNat
theorem topN_lt (d : List UInt8) (k : Nat) : topN d k < 256 ^ k := by
  induction k with
  | zero => simp [topN]
  | succ k ih =>
    have := (d[k]?.getD 0).toNat_lt
    simp only [topN, Nat.pow_succ]
    omega
def shortL (s : List UInt8) : Nat := topN (sumB s) 8 / 16
def Small8 (n : Nat) : Prop := n < 72057594037927936
theorem topN_small (d : List UInt8) (k : Nat) (hk : k < 8) : topN d k < 72057594037927936 :=
  Nat.lt_of_lt_of_le (topN_lt d k) (Nat.le_trans (Nat.pow_le_pow_right (by decide) (show k ≤ 7 by omega)) (by decide))
theorem short_or (n : Nat) (b : UInt8) (hn : n < 72057594037927936) : bits .or .u64 ((n : Int) * 256) (b.toNat : Int) = ((n * 256 + b.toNat : Nat) : Int) := by
  have hb := b.toNat_lt
  have h := bits_or_u64_nat (n * 256) b.toNat (by omega) (by omega)
  have e : n * 256 ||| b.toNat = n * 256 + b.toNat := by
    rw [Nat.mul_comm, show 256 = 2 ^ 8 from rfl, ← Nat.two_pow_add_eq_or_of_lt hb]
  rw [e] at h
  rw [← h]
  congr 1
theorem short_or2 (n : Nat) (b : UInt8) (hn : n < 72057594037927936) : bits .or .u64 (IntKind.u64.wrap ((n : Int) * 256)) (IntKind.u64.wrap (b.toNat : Int)) = ((n * 256 + b.toNat : Nat) : Int) := by
  have hb := b.toNat_lt
  rw [IntWalk.u64_in _ (by omega), IntWalk.u64_in _ (by omega)]
  exact short_or n b hn
theorem short_end (n : Nat) (hn : n < 256 ^ 8) : wrap64 (IntKind.u64.wrap ((n : Int) / 16)) = ((n / 16 : Nat) : Int) := by
  have h : (256 : Nat) ^ 8 = 18446744073709551616 := by decide
  rw [h] at hn
  rw [IntWalk.u64_in _ (by omega), IntWalk.wrap64_in _ (by omega)]
  omega
set_option maxRecDepth 100000 in
set_option maxHeartbeats 1000000 in
theorem short_any (s : ByteArray) (w : World) (hg : Glob w) (hs : s.size ≤ 1000000) :
    Calls Tryz.prog 132 #[.string s] w fun e w' => e = .returned (.int .i64 (shortL s.data.toList : Nat)) ∧ Below w.heap.size w w' := by
  go_enter Tryz.func132, Tryz.ntmps132
  go_wp2_with fail
  refine (sum_any _ _ hg hs).mono ?_
  rintro e w1 ⟨rfl, hb⟩
  have HB := Lib.hid hb
  clear hb hg
  have HS : Hid (shortL s.data.toList = topN (sumB s.data.toList) 8 / 16) := rfl
  have hX : (⟨(sumB s.data.toList).toArray⟩ : ByteArray).size = 32 := sumB_len _
  have HX : Hid ((⟨(sumB s.data.toList).toArray⟩ : ByteArray).data.toList = sumB s.data.toList) := rfl
  generalize (⟨(sumB s.data.toList).toArray⟩ : ByteArray) = X at *
  rw [← HX.out] at HS
  clear HX
  have hX1 : 32 ≤ X.size := by omega
  have hX2 : X.size ≤ 32 := by omega
  clear hX
  go_wp2_with fail
  go_loop [4, 8] (fun n i => ∃ k : Nat, k ≤ 8 ∧ i = .int .i64 k ∧ n = .int .u64 (topN X.data.toList k : Nat)) (fun _ i => 8 - (intOf i).toNat)
  case atStart => exact ⟨0, by omega, rfl, rfl⟩
  case round =>
    obtain ⟨k, hk, rfl, rfl⟩ := hrel
    by_cases hlt : k < 8
    · have hlt2 : k < X.size := by omega
      have hT : topN X.data.toList (k + 1) = topN X.data.toList k * 256 + X[k].toNat := by
        simp only [topN]
        congr 2
        rw [List.getElem?_eq_getElem (by simpa using hlt2)]
        rfl
      have hn := topN_small X.data.toList k hlt
      have HT := Lib.hid hT
      have Hn := Lib.hid (short_or2 (topN X.data.toList k) X[k] hn)
      clear hT hn
      generalize topN X.data.toList k = n at *
      go_wp2_with fail
      go_round
      case rel => exact ⟨k + 1, by omega, by go_num, by rw [HT.out, Hn.out]⟩
      case measure => simp [intOf]; omega
    · obtain rfl : k = 8 := by omega
      clear hlt hk
      have h8 := topN_lt X.data.toList 8
      have H8 := Lib.hid h8
      clear h8
      generalize topN X.data.toList 8 = n at *
      go_wp2_with fail
      have HE := Lib.hid (short_end n H8.out)
      go_ret
      exact ⟨by rw [HS.out]; exact congrArg (fun z => Ending.returned (Value.int .i64 z)) HE.out, HB.out⟩
end Go.Proofs.YtgjklfddoechpaaGreatDoor
