/- The reference's Crc, Hex and Unhex return what the plain functions crcL, hexL and unhexR say, for strings of at most 1000000 bytes. -/
import Derived.Test.YtonhaoieeefglaaDoorReg
import Derived.Test.YtonhaoieeefglaaDoorCrc
import Derived.Test.YtonhaoieeefglaaDoorHex
import Derived.Test.YtonhaoieeefglaaDoorUnhex
namespace Go.Proofs.YtonhaoieeefglaaDoor
open Go.RowKit
set_option maxHeartbeats 400000 in
theorem rcrc_any (s : ByteArray) (w : World) (hs : s.size ≤ maxLen) :
    Calls Tryd.prog 19 #[.string s] w fun e w' => e = .returned (.int .i64 (crcL s.data.toList : Nat)) ∧ w = w' := by
  unfold maxLen at hs
  go_enter Tryd.func19, Tryd.ntmps19
  go_wp2_with fail
  go_loop [3, 4, 5] (fun r i _ => ∃ k : Nat, k ≤ s.size ∧ i = .int .i64 k ∧ r = .int .i64 (crcReg (s.data.toList.take k) : Nat)) (fun _ i _ => s.size - (intOf i).toNat)
  case atStart => exact ⟨0, Nat.zero_le _, rfl, rfl⟩
  case round =>
    obtain ⟨k, hk, rfl, rfl⟩ := hrel
    have hr := crcReg_lt (s.data.toList.take k)
    by_cases hlt : k < s.size
    · have hT0 := crcReg_take s.data.toList k (by simpa using hlt)
      have hT : Hid (crcReg (s.data.toList.take (k + 1)) = crcBits 8 (crcReg (s.data.toList.take k) ^^^ s[k].toNat)) := hT0
      clear hT0
      generalize crcReg (s.data.toList.take k) = r at *
      have hb := (s[k]).toNat_lt
      have hx : bits BinOp.xor IntKind.i64 (r : Int) (s[k].toNat : Int) = ((r ^^^ s[k].toNat : Nat) : Int) := i64_xor_nat _ _ (by omega) (by omega)
      have hrx : r ^^^ s[k].toNat < 65536 := xor_lt16 hr (by omega)
      go_wp2_with fail
      generalize r ^^^ s[k].toNat = q at *
      clear hx hb hr
      go_loop [3, 5] (fun r i => ∃ j : Nat, j ≤ 8 ∧ i = .int .i64 j ∧ r = .int .i64 (crcBits j q : Nat)) (fun _ i => 8 - (intOf i).toNat)
      case atStart => exact ⟨0, by omega, rfl, rfl⟩
      case round =>
        obtain ⟨j, hj, rfl, rfl⟩ := hrel
        have hr := crcBits_lt hrx j
        have HJ : Hid (crcBits (j + 1) q = crcBit (crcBits j q)) := rfl
        by_cases hl2 : j < 8
        · generalize crcBits j q = p at *
          by_cases ho : p % 2 = 1
          · have h1 : (((p : Int) % 2) == 1) = true := beq_iff_eq.2 (by omega)
            have hx : bits BinOp.xor IntKind.i64 ((p : Int) / 2) 33800 = ((p / 2 ^^^ 33800 : Nat) : Int) := i64_xor_nat (p / 2) 33800 (by omega) (by omega)
            have HE : Hid (crcBit p = p / 2 ^^^ 33800) := if_pos ho
            clear ho
            go_wp2_with fail
            go_round
            case rel => exact ⟨j + 1, by omega, by go_num, by rw [HJ.out, HE.out]⟩
            case measure => simp [intOf]; omega
          · have h1 : (((p : Int) % 2) == 1) = false := beq_eq_false_iff_ne.2 (by omega)
            have HE : Hid (crcBit p = p / 2) := if_neg ho
            clear ho
            go_wp2_with fail
            go_round
            case rel => exact ⟨j + 1, by omega, by go_num, by rw [HJ.out, HE.out]; rfl⟩
            case measure => simp [intOf]; omega
        · obtain rfl : j = 8 := by omega
          clear hl2 hj HJ
          rw [← hT.out] at hr ⊢
          go_wp2_with fail
          go_round
          case rel => exact ⟨k + 1, by omega, by go_num, rfl⟩
          case measure => simp [intOf]; omega
    · obtain rfl : k = s.size := by omega
      clear hlt hk
      have ht : s.data.toList.take s.size = s.data.toList := List.take_of_length_le (by simp)
      rw [ht] at hr ⊢
      have hx : bits BinOp.xor IntKind.i64 (crcReg s.data.toList : Int) 65535 = ((crcReg s.data.toList ^^^ 65535 : Nat) : Int) := i64_xor_nat _ 65535 (by omega) (by omega)
      go_wp2_with fail
      go_ret
      exact ⟨rfl, rfl⟩
theorem hexD_lo (x : Int) (h0 : 0 ≤ x) (h1 : x < 10) : ((hexD x.toNat).toNat : Int) = 48 + x := by
  unfold hexD
  rw [if_pos (by omega), UInt8.toNat_ofNat']
  omega
theorem hexD_hi (x : Int) (h0 : 10 ≤ x) (h1 : x < 16) : ((hexD x.toNat).toNat : Int) = 97 + x - 10 := by
  unfold hexD
  rw [if_neg (by omega), UInt8.toNat_ofNat']
  omega
theorem ret_u8 {a b : Int} (h : a = b) : Ending.returned (.int .u8 a) = .returned (.int .u8 b) := by rw [h]
theorem rdigit_any (x : Int) (w : World) (h0 : 0 ≤ x) (h1 : x < 16) :
    Calls Tryd.prog 27 #[.int .i64 x] w fun e w' => e = .returned (.int .u8 ((hexD x.toNat).toNat : Int)) ∧ w = w' := by
  by_cases h : x < 10
  · have H := Lib.hid (hexD_lo x h0 h)
    go_enter Tryd.func27, Tryd.ntmps27
    go_wp2_with fail
    go_ret
    exact ⟨ret_u8 H.out.symm, rfl⟩
  · have H := Lib.hid (hexD_hi x (by omega) h1)
    go_enter Tryd.func27, Tryd.ntmps27
    go_wp2_with fail
    go_ret
    exact ⟨ret_u8 H.out.symm, rfl⟩
set_option maxRecDepth 100000 in
set_option maxHeartbeats 400000 in
theorem rhex_any (s : ByteArray) (w : World) (hs : s.size ≤ 1000000) :
    Calls Tryd.prog 20 #[.string s] w fun e w' => e = .returned (.string ⟨(hexL s.data.toList).toArray⟩) ∧ Below w.heap.size w w' := by
  obtain ⟨i0, hi, hz0, hz1, hz2⟩ := info_parts infoB
  go_enter Tryd.func20, Tryd.ntmps20
  go_wp2_with fail
  go_loopw [3, 4] (fun v i wr => ∃ k : Nat, k ≤ s.size ∧ i = .int .i64 k ∧ wr.ownsRow w.heap.size 5 1 v (2 * k) (bytesV (hexL (s.data.toList.take k))) ∧ Below w.heap.size w wr) (fun _ i _ => s.size - (intOf i).toNat)
  case atStart => exact ⟨0, by omega, rfl, World.ownsRow_nil _ _ _ _, Below.refl _ _⟩
  case round =>
    obtain ⟨k, hk, rfl, hown, hB⟩ := hrel
    have HO := Lib.hid hown.drew
    have HB := Lib.hid hB.drew
    have HO' := Lib.hid hown
    have HB' := Lib.hid hB
    clear hown hB
    by_cases hlt : k < s.size
    · have hT := hexL_take s.data.toList k (by simpa using hlt)
      have HT : Hid (hexL (s.data.toList.take (k + 1)) = hexL (s.data.toList.take k) ++ hex2 s[k]) := Lib.hid hT
      clear hT
      have hb := (s[k]).toNat_lt
      have h3 : IntKind.i64.wrap ((s[k].toNat : Int) / 16) = (s[k].toNat : Int) / 16 := IntWalk.i64_in _ (by omega)
      have h6 : IntKind.i64.wrap (s[k].toNat : Int) = (s[k].toNat : Int) := IntWalk.i64_in _ (by omega)
      have h5 : ((s[k].toNat : Int)).tdiv 16 = (s[k].toNat : Int) / 16 := Int.tdiv_eq_ediv_of_nonneg (by omega)
      have h7 : IntKind.i64.wrap ((s[k].toNat : Int) % 16) = (s[k].toNat : Int) % 16 := IntWalk.i64_in _ (by omega)
      have h4 : ((s[k].toNat : Int)).tmod 16 = (s[k].toNat : Int) % 16 := Int.tmod_eq_emod_of_nonneg (by omega)
      go_wp2_with fail
      go_region_held_law (fun _ => True) (trivial) (first | (refine step_append_own rfl _ _ 30 rfl w.heap.size 5 i0 (.int .u8 0) 1 1 undBs hi hz0 hz1 hz2 rfl (by decide) _ _ _ rfl (HO.out.alloc _) ⟨wr.heap.size, 0, none⟩ 2 2 _ rfl (by rfl) (cells_new _ _ _) (by simp [Value.oneCell']) (by unfold maxLen; omega) (by omega) (by have := HB.out.size; simpa using Nat.le_succ_of_le this) ?_; intro v' w1 hown1 hgr1 _) | (go_at_call 27; refine (rdigit_any _ _ (by omega) (by omega)).mono ?_; rintro e w' ⟨rfl, rfl⟩))
      all_goals
        have HO1 : Hid (w1.ownsRow w.heap.size 5 1 v' (2 * (k + 1)) (bytesV (hexL (s.data.toList.take (k + 1))))) := by
          refine Lib.hid ?_
          have e1 : ((s[k].toNat : Int) / 16).toNat = s[k].toNat / 16 := by omega
          have e2 : ((s[k].toNat : Int) % 16).toNat = s[k].toNat % 16 := by omega
          rw [HT.out, bytesV_append]
          rw [e1, e2] at hown1
          exact hown1
        have HB1 : Hid (Below w.heap.size w w1) := Lib.hid ((HB.out.alloc HB.out.size _).grown hgr1 (by have := HB.out.size; simpa using Nat.le_succ_of_le this) (fun q e => HO.out.block_ge e))
        clear hown1 hgr1 h3 h4 h5 h6 h7
        go_wp2_with fail
        go_roundw
        case rel => exact ⟨k + 1, by omega, by go_num, HO1.out, HB1.out⟩
        case measure => simp [intOf]; omega
    · obtain rfl : k = s.size := by omega
      clear hlt hk
      have ht : s.data.toList.take s.size = s.data.toList := List.take_of_length_le (by simp)
      rw [ht] at HO'
      go_wp2_with (refine wpList_string_own rfl 30 9 5 _ rfl undBs undB undS _ rfl w.heap.size (2 * s.size) (hexL s.data.toList) HO'.out ?_)
      go_ret
      exact ⟨rfl, HB'.out⟩
end Go.Proofs.YtonhaoieeefglaaDoor
