/- The reference's Crc, Body, Escaped and Encode return what the plain functions say. -/
import Derived.Test.YtonhaoieeefglaaFFlags
namespace Go.Proofs.Ytonhaoieeefglaa
open Go.RowKit
set_option maxHeartbeats 400000 in
theorem rcrc_any (s : ByteArray) (w : World) (hs : s.size ≤ maxLen) :
    Calls Try.prog 27 #[.string s] w fun e w' => e = .returned (.int .i64 (crcL s.data.toList : Nat)) ∧ w = w' := by
  unfold maxLen at hs
  go_enter Try.func27, Try.ntmps27
  go_wp2_with fail
  go_loop [3, 4, 5] (fun r i _ => ∃ k : Nat, k ≤ s.size ∧ i = .int .i64 k ∧ r = .int .i64 (crcReg (s.data.toList.take k) : Nat)) (fun _ i _ => s.size - (intOf i).toNat)
  case atStart => exact ⟨0, Nat.zero_le _, rfl, rfl⟩
  case round =>
    obtain ⟨k, hk, rfl, rfl⟩ := hrel
    have hr := crcReg_lt (s.data.toList.take k)
    by_cases hlt : k < s.size
    · have hT0 := crcReg_take s.data.toList k (by simpa using hlt)
      have hT : Hid (crcReg (s.data.toList.take (k + 1)) = crcBits 8 (crcReg (s.data.toList.take k) ^^^ s[k].toNat)) := hT0
      clear hT0
      generalize crcReg (s.data.toList.take k) = r at *
      have hb := (s[k]).toNat_lt
      have hx : bits BinOp.xor IntKind.i64 (r : Int) (s[k].toNat : Int) = ((r ^^^ s[k].toNat : Nat) : Int) := i64_xor_nat _ _ (by omega) (by omega)
      have hrx : r ^^^ s[k].toNat < 65536 := xor_lt16 hr (by omega)
      go_wp2_with fail
      generalize r ^^^ s[k].toNat = q at *
      clear hx hb hr
      go_loop [3, 5] (fun r i => ∃ j : Nat, j ≤ 8 ∧ i = .int .i64 j ∧ r = .int .i64 (crcBits j q : Nat)) (fun _ i => 8 - (intOf i).toNat)
      case atStart => exact ⟨0, by omega, rfl, rfl⟩
      case round =>
        obtain ⟨j, hj, rfl, rfl⟩ := hrel
        have hr := crcBits_lt hrx j
        have HJ : Hid (crcBits (j + 1) q = crcBit (crcBits j q)) := rfl
        by_cases hl2 : j < 8
        · generalize crcBits j q = p at *
          by_cases ho : p % 2 = 1
          · have h1 : (((p : Int) % 2) == 1) = true := beq_iff_eq.2 (by omega)
            have hx : bits BinOp.xor IntKind.i64 ((p : Int) / 2) 33800 = ((p / 2 ^^^ 33800 : Nat) : Int) := i64_xor_nat (p / 2) 33800 (by omega) (by omega)
            have HE : Hid (crcBit p = p / 2 ^^^ 33800) := if_pos ho
            clear ho
            go_wp2_with fail
            go_round
            case rel => exact ⟨j + 1, by omega, by go_num, by rw [HJ.out, HE.out]⟩
            case measure => simp [intOf]; omega
          · have h1 : (((p : Int) % 2) == 1) = false := beq_eq_false_iff_ne.2 (by omega)
            have HE : Hid (crcBit p = p / 2) := if_neg ho
            clear ho
            go_wp2_with fail
            go_round
            case rel => exact ⟨j + 1, by omega, by go_num, by rw [HJ.out, HE.out]; rfl⟩
            case measure => simp [intOf]; omega
        · obtain rfl : j = 8 := by omega
          clear hl2 hj HJ
          rw [← hT.out] at hr ⊢
          go_wp2_with fail
          go_round
          case rel => exact ⟨k + 1, by omega, by go_num, rfl⟩
          case measure => simp [intOf]; omega
    · obtain rfl : k = s.size := by omega
      clear hlt hk
      have ht : s.data.toList.take s.size = s.data.toList := List.take_of_length_le (by simp)
      rw [ht] at hr ⊢
      have hx : bits BinOp.xor IntKind.i64 (crcReg s.data.toList : Int) 65535 = ((crcReg s.data.toList ^^^ 65535 : Nat) : Int) := i64_xor_nat _ 65535 (by omega) (by omega)
      go_wp2_with fail
      go_ret
      exact ⟨rfl, rfl⟩
set_option maxRecDepth 100000 in
set_option maxHeartbeats 1000000 in
theorem body_any (s : ByteArray) (w : World) (hs : s.size ≤ 100000) :
    Calls Try.prog 16 #[.string s] w fun e w' => e = .returned (.string ⟨(bodyL s.data.toList).toArray⟩) ∧ Below w.heap.size w w' := by
  go_enter Try.func16, Try.ntmps16
  go_wp2_with fail
  refine (rcrc_any s _ (by unfold maxLen; omega)).mono ?_
  rintro e w' ⟨rfl, rfl⟩
  have hn := crcL_lt s.data.toList
  have HC : Hid (bodyL s.data.toList = s.data.toList ++ [UInt8.ofNat (crcL s.data.toList % 256), UInt8.ofNat (crcL s.data.toList / 256)]) := rfl
  generalize crcL s.data.toList = n at *
  go_upto_region 2 with (fail)
  have hc := conv_new w [UInt8.ofNat (n % 256), UInt8.ofNat (n / 256)]
  have e1 : (((UInt8.ofNat (n % 256)).toNat : Nat) : Int) = (n : Int) % 256 := by rw [UInt8.toNat_ofNat']; omega
  have e2 : (((UInt8.ofNat (n / 256)).toNat : Nat) : Int) = (n : Int) / 256 := by rw [UInt8.toNat_ofNat']; omega
  simp only [bytesV, List.map_cons, List.map_nil, e1, e2, List.length_cons, List.length_nil, Nat.zero_add, Nat.reduceAdd] at hc
  have hX : (⟨[UInt8.ofNat (n % 256), UInt8.ofNat (n / 256)].toArray⟩ : ByteArray).size = 2 := rfl
  have HX : Hid (s ++ (⟨[UInt8.ofNat (n % 256), UInt8.ofNat (n / 256)].toArray⟩ : ByteArray) = (⟨(bodyL s.data.toList).toArray⟩ : ByteArray)) := Lib.hid (ba_eq (by rw [toList_append, HC.out]))
  clear e1 e2
  generalize (⟨[UInt8.ofNat (n % 256), UInt8.ofNat (n / 256)].toArray⟩ : ByteArray) = X at *
  go_wp2_with fail
  rw [HX.out]
  go_ret
  exact ⟨rfl, (Below.refl _ _).alloc (Nat.le_refl _) _⟩
set_option maxRecDepth 100000 in
set_option maxHeartbeats 1000000 in
theorem resc_any (s : ByteArray) (w : World) (hs : s.size ≤ 100000) :
    Calls Try.prog 17 #[.string s] w fun e w' => e = .returned (.string ⟨(escL s.data.toList).toArray⟩) ∧ Below w.heap.size w w' := by
  obtain ⟨i0, hi, hz0, hz1, hz2⟩ := info_parts infoB
  go_enter Try.func17, Try.ntmps17
  go_wp2_with fail
  go_loopw [3, 4] (fun v i wr => ∃ k : Nat, k ≤ s.size ∧ i = .int .i64 k ∧ wr.ownsRow w.heap.size 5 1 v (escL (s.data.toList.take k)).length (bytesV (escL (s.data.toList.take k))) ∧ Below w.heap.size w wr) (fun _ i _ => s.size - (intOf i).toNat)
  case atStart => exact ⟨0, by omega, rfl, World.ownsRow_nil _ _ _ _, Below.refl _ _⟩
  case round =>
    obtain ⟨k, hk, rfl, hown, hB⟩ := hrel
    have HO := Lib.hid hown
    have HB := Lib.hid hB
    clear hown hB
    by_cases hlt : k < s.size
    · have HT : Hid (escL (s.data.toList.take (k + 1)) = escL (s.data.toList.take k) ++ escB s[k]) := Lib.hid (escL_take _ k (by simpa using hlt))
      have HL : Hid ((escL (s.data.toList.take k)).length + 2 ≤ 200002) := by
        refine Lib.hid ?_
        have h1 := escL_len (s.data.toList.take k)
        have h2 : (s.data.toList.take k).length ≤ k := List.length_take_le _ _
        omega
      have i1 := fun w => index_str s (k : Int) k rfl hlt w
      have HE : Hid (escB s[k] = if s[k] = 126 then [125, 94] else if s[k] = 125 then [125, 93] else [s[k]]) := rfl
      generalize s[k] = c at *
      have lc := c.toNat_lt
      by_cases h1 : c.toNat = 125 ∨ c.toNat = 126
      · have hcc : c = 125 ∨ c = 126 := h1.imp (fun h => UInt8.toNat_inj.1 (by rw [h]; rfl)) (fun h => UInt8.toNat_inj.1 (by rw [h]; rfl))
        clear h1
        rcases hcc with rfl | rfl
        all_goals
          have HE2 := HE.out
          simp at HE2
          have HE3 := Lib.hid HE2
          clear HE HE2 lc
          go_wp2_with (at_builtin; refine Hid.out ?_)
          refine Lib.hid ?_
          refine wpList_append_own _ rfl _ _ 35 rfl w.heap.size 5 i0 (.int .u8 0) 1 1 undBs hi hz0 hz1 hz2 rfl (by decide) _ _ _ rfl (HO.out.alloc _) ⟨wr.heap.size, 0, none⟩ 2 2 _ rfl (by rfl) (cells_new _ _ _) (by simp [Value.oneCell']) (by unfold maxLen; have := HL.out; omega) (by have := HL.out; omega) (by have := HB.out.size; simpa using Nat.le_succ_of_le this) ?_
          intro v' w1 hown1 hgr1 _
          have HO1 : Hid (w1.ownsRow w.heap.size 5 1 v' (escL (s.data.toList.take (k + 1))).length (bytesV (escL (s.data.toList.take (k + 1))))) := by
            refine Lib.hid ?_
            rw [HT.out, HE3.out, bytesV_append, List.length_append]
            exact hown1
          have HB1 : Hid (Below w.heap.size w w1) := Lib.hid ((HB.out.alloc HB.out.size _).grown hgr1 (by have := HB.out.size; simpa using Nat.le_succ_of_le this) (fun q e => HO.out.block_ge e))
          clear hown1 hgr1
          go_wp2_with fail
          go_roundw
          case rel => exact ⟨k + 1, by omega, by go_num, HO1.out, HB1.out⟩
          case measure => simp [intOf]; omega
      · have n1 : ((c.toNat : Int) == 125) = false := beq_eq_false_iff_ne.2 (by omega)
        have n2 : ((c.toNat : Int) == 126) = false := beq_eq_false_iff_ne.2 (by omega)
        have c1 : ¬ c = 126 := fun e => h1 (Or.inr (by rw [e]; rfl))
        have c2 : ¬ c = 125 := fun e => h1 (Or.inl (by rw [e]; rfl))
        have HE2 := HE.out
        rw [if_neg c1, if_neg c2] at HE2
        have HE3 := Lib.hid HE2
        clear HE HE2 h1 c1 c2
        go_wp2_with (at_builtin; refine Hid.out ?_)
        refine Lib.hid ?_
        refine wpList_append_own _ rfl _ _ 35 rfl w.heap.size 5 i0 (.int .u8 0) 1 1 undBs hi hz0 hz1 hz2 rfl (by decide) _ _ _ rfl (HO.out.alloc _) ⟨wr.heap.size, 0, none⟩ 1 1 _ rfl (by rfl) (cells_new _ _ _) (by simp [Value.oneCell']) (by unfold maxLen; have := HL.out; omega) (by have := HL.out; omega) (by have := HB.out.size; simpa using Nat.le_succ_of_le this) ?_
        intro v' w1 hown1 hgr1 _
        have HO1 : Hid (w1.ownsRow w.heap.size 5 1 v' (escL (s.data.toList.take (k + 1))).length (bytesV (escL (s.data.toList.take (k + 1))))) := by
          refine Lib.hid ?_
          rw [HT.out, HE3.out, bytesV_append, List.length_append]
          exact hown1
        have HB1 : Hid (Below w.heap.size w w1) := Lib.hid ((HB.out.alloc HB.out.size _).grown hgr1 (by have := HB.out.size; simpa using Nat.le_succ_of_le this) (fun q e => HO.out.block_ge e))
        clear hown1 hgr1
        go_wp2_with fail
        go_roundw
        case rel => exact ⟨k + 1, by omega, by go_num, HO1.out, HB1.out⟩
        case measure => simp [intOf]; omega
    · obtain rfl : k = s.size := by omega
      clear hlt hk
      have ht : s.data.toList.take s.size = s.data.toList := List.take_of_length_le (by simp)
      rw [ht] at HO
      go_wp2_with (refine wpList_string_own rfl 35 9 5 _ rfl undBs undB undS _ rfl w.heap.size _ (escL s.data.toList) HO.out ?_)
      go_ret
      exact ⟨rfl, HB.out⟩
set_option maxRecDepth 100000 in
set_option maxHeartbeats 1000000 in
theorem rencode_any (s : ByteArray) (w : World) (hs : s.size ≤ 40000) :
    Calls Try.prog 14 #[.string s] w fun e w' => e = .returned (.string ⟨(encL s.data.toList).toArray⟩) ∧ Below w.heap.size w w' := by
  go_enter Try.func14, Try.ntmps14
  go_wp2_with fail
  refine (body_any s _ (by omega)).mono ?_
  rintro e w1 ⟨rfl, hb⟩
  have HB1 := Lib.hid hb
  clear hb
  have hbl : (⟨(bodyL s.data.toList).toArray⟩ : ByteArray).size ≤ 40002 := by
    show (bodyL s.data.toList).length ≤ 40002
    unfold bodyL crcB
    simp
    omega
  have HBD : Hid ((⟨(bodyL s.data.toList).toArray⟩ : ByteArray).data.toList = bodyL s.data.toList) := rfl
  generalize (⟨(bodyL s.data.toList).toArray⟩ : ByteArray) = B at *
  go_wp2_with fail
  refine (resc_any B _ (by omega)).mono ?_
  rintro e w2 ⟨rfl, hb⟩
  have HB2 := Lib.hid (HB1.out.trans (hb.mono HB1.out.size))
  clear hb
  have hel : (⟨(escL B.data.toList).toArray⟩ : ByteArray).size ≤ 80004 := by
    show (escL B.data.toList).length ≤ 80004
    have := escL_len B.data.toList
    simp at this
    omega
  have hes : (escL (bodyL s.data.toList)).length = (⟨(escL B.data.toList).toArray⟩ : ByteArray).size := by rw [HBD.out]; rfl
  have HE : Hid (encL s.data.toList = if 2048 < (⟨(escL B.data.toList).toArray⟩ : ByteArray).size then [] else 126 :: ((⟨(escL B.data.toList).toArray⟩ : ByteArray).data.toList ++ [126])) := by
    refine Lib.hid ?_
    rw [← hes]
    unfold encL
    rw [HBD.out]
  clear hes HBD HB1
  generalize (⟨(escL B.data.toList).toArray⟩ : ByteArray) = E at *
  by_cases hbig : 2048 < E.size
  · have HE2 := HE.out
    rw [if_pos hbig] at HE2
    have HE3 := Lib.hid HE2
    clear HE HE2
    go_wp2_with fail
    rw [HE3.out]
    go_ret
    exact ⟨rfl, HB2.out⟩
  · have HE2 := HE.out
    rw [if_neg hbig] at HE2
    have HX : Hid ((⟨#[126]⟩ : ByteArray) ++ E ++ (⟨#[126]⟩ : ByteArray) = (⟨(encL s.data.toList).toArray⟩ : ByteArray)) := Lib.hid (ba_eq (by rw [toList_append, toList_append, HE2]; rfl))
    clear HE HE2
    go_wp2_with fail
    rw [HX.out]
    go_ret
    exact ⟨rfl, HB2.out⟩
end Go.Proofs.Ytonhaoieeefglaa
