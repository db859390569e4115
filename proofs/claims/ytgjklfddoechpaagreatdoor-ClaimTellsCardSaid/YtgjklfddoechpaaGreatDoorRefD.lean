/- The reference's word, constants and order; the words of a block as the program has them. -/
import Derived.Test.YtgjklfddoechpaaGreatDoorReg
import Derived.Test.YtgjklfddoechpaaGreatDoorSum
import Derived.Test.YtgjklfddoechpaaGreatDoorSIdx
namespace Go.Proofs.YtgjklfddoechpaaGreatDoor
open Go.RowKit
def byteAt (l : List UInt8) (j : Nat) : Nat := (l[j]?.getD 0).toNat
theorem byteAt_lt (l : List UInt8) (j : Nat) : byteAt l j < 256 := (l[j]?.getD 0).toNat_lt
/-- the bytes a+3, a+2, .. as a number, k of them -/
def topW (l : List UInt8) (a : Nat) : Nat → Nat
  | 0 => 0
  | k + 1 => topW l a k * 256 + byteAt l (a + (3 - k))
theorem topW_lt (l : List UInt8) (a : Nat) : ∀ k, topW l a k < 256 ^ k
  | 0 => by simp [topW]
  | k + 1 => by
    have h := topW_lt l a k
    have b := byteAt_lt l (a + (3 - k))
    rw [Nat.pow_succ]
    simp only [topW]
    omega
theorem topW_small (l : List UInt8) (a : Nat) (k : Nat) (hk : k < 4) : topW l a k < 16777216 :=
  Nat.lt_of_lt_of_le (topW_lt l a k) (Nat.le_trans (Nat.pow_le_pow_right (by decide) (show k ≤ 3 by omega)) (by decide))
theorem or_low (n b : Nat) (hn : n < 16777216) (hb : b < 256) : bits .or .u32 ((n : Int) * 256) (b : Int) = ((n * 256 + b : Nat) : Int) := by
  rw [show ((n : Int) * 256) = ((n * 256 : Nat) : Int) by omega]
  have e : n * 256 + b = n * 256 ||| b := by
    have := Nat.shiftLeft_add_eq_or_of_lt (a := n) (b := b) (i := 8) hb
    simpa [Nat.shiftLeft_eq] using this
  rw [e]
  exact u32_or_nat _ _ (by omega) (by omega)
set_option maxHeartbeats 400000 in
theorem rword_any (s : ByteArray) (a : Int) (w : World) (hs : s.size ≤ 1000000) (ha0 : 0 ≤ a) (ha : a ≤ 2000000) :
    Calls Tryz.prog 139 #[.string s, .int .i64 a] w fun e w' => e = .returned (.int .u32 (topW s.data.toList a.toNat 4 : Nat)) ∧ w = w' := by
  obtain ⟨n, rfl⟩ := Int.eq_ofNat_of_zero_le ha0
  rw [Int.toNat_natCast]
  go_enter Tryz.func139, Tryz.ntmps139
  go_wp2_with fail
  go_loop [5, 6] (fun x i => ∃ k : Nat, k ≤ 4 ∧ i = .int .i64 (3 - (k : Int)) ∧ x = .int .u32 (topW s.data.toList n k : Nat)) (fun _ i => (intOf i + 1).toNat)
  case atStart => exact ⟨0, by omega, rfl, rfl⟩
  case round =>
    obtain ⟨k, hk, rfl, rfl⟩ := hrel
    by_cases hlt : k < 4
    · have hN := topW_small s.data.toList n k hlt
      have HT : Hid (topW s.data.toList n (k + 1) = topW s.data.toList n k * 256 + byteAt s.data.toList (n + (3 - k))) := rfl
      generalize topW s.data.toList n k = q at *
      have x1 : IntKind.u32.wrap ((q : Int) * 256) = ((q * 256 : Nat) : Int) := by rw [IntWalk.u32_in _ (by omega)]; omega
      by_cases hin : n + (3 - k) < s.size
      · have x2 : decide ((n : Int) + (3 - (k : Int)) < (s.size : Int)) = true := by simp; omega
        have i1 := fun w => index_str s ((n : Int) + (3 - (k : Int))) (n + (3 - k)) (by omega) hin w
        have HB : Hid (byteAt s.data.toList (n + (3 - k)) = s[n + (3 - k)].toNat) := by
          show _ = _
          unfold byteAt
          rw [List.getElem?_eq_getElem (by simpa using hin)]
          rfl
        have hb := (s[n + (3 - k)]).toNat_lt
        generalize s[n + (3 - k)].toNat = b at *
        have X3 := Lib.hid (or_low q b hN hb)
        go_wp2_with fail
        go_round
        case rel => exact ⟨k + 1, by omega, by go_num, by rw [HT.out, HB.out]; exact congrArg (Value.int .u32) X3.out⟩
        case measure => simp [intOf]; omega
      · have x2 : decide ((n : Int) + (3 - (k : Int)) < (s.size : Int)) = false := by simp; omega
        have HB : Hid (byteAt s.data.toList (n + (3 - k)) = 0) := by
          show _ = _
          unfold byteAt
          rw [List.getElem?_eq_none (by simp; omega)]
          rfl
        go_wp2_with fail
        go_round
        case rel => exact ⟨k + 1, by omega, by go_num, by rw [HT.out, HB.out]; exact congrArg (Value.int .u32) (by omega)⟩
        case measure => simp [intOf]; omega
    · obtain rfl : k = 4 := by omega
      go_wp2_with fail
      go_ret
      exact ⟨rfl, rfl⟩
theorem startV : u32v startL = #[.int .u32 1779033703, .int .u32 3144134277, .int .u32 1013904242, .int .u32 2773480762, .int .u32 1359893119, .int .u32 2600822924, .int .u32 528734635, .int .u32 1541459225] := by simp [u32v, startL]
set_option maxRecDepth 100000 in
theorem rconst_any (w : World) :
    Calls Tryz.prog 102 #[] w fun e w' => e = .returned (.slice (some ⟨w.heap.size, 0, none⟩) 8 8) ∧ w' = w.alloc (.cells (u32v startL) 129) := by
  rw [startV]
  go_enter Tryz.func102, Tryz.ntmps102
  go_wp2_with fail
  go_ret
  exact ⟨rfl, rfl⟩
/-- the order of a round as ints -/
def ordI (r : Nat) : Array Value := ((ordL[r]?.getD []).map (Value.int .i64)).toArray
set_option maxRecDepth 100000 in
set_option maxHeartbeats 4000000 in
theorem rorder_any (r : Nat) (hr : r < 10) (w : World) :
    Calls Tryz.prog 140 #[.int .i64 (r : Int)] w fun e w' => e = .returned (.slice (some ⟨w.heap.size, 0, none⟩) 16 16) ∧ w' = w.alloc (.cells (ordI r) 3) := by
  have h : r = 0 ∨ r = 1 ∨ r = 2 ∨ r = 3 ∨ r = 4 ∨ r = 5 ∨ r = 6 ∨ r = 7 ∨ r = 8 ∨ r = 9 := by omega
  rcases h with rfl | rfl | rfl | rfl | rfl | rfl | rfl | rfl | rfl | rfl
  all_goals
    go_enter Tryz.func140, Tryz.ntmps140
    go_wp2_with fail
    go_ret
    exact ⟨rfl, rfl⟩
end Go.Proofs.YtgjklfddoechpaaGreatDoor
