/- Package wire: digits, Int and Num. -/
import Derived.Laws.MakeOwn
import Derived.Laws.NewDeep
import Derived.Test.YtepidpegoihllaaGreatDoorWDig
namespace Go.Proofs.YtepidpegoihllaaGreatDoor
open Go.RowKit
def flipL (l : List UInt8) : List UInt8 := l.map fun b => 255 - b
def sameL (l : List UInt8) : List UInt8 := l
theorem flipL_append (a b : List UInt8) : flipL (a ++ b) = flipL a ++ flipL b := List.map_append
theorem sameL_append (a b : List UInt8) : sameL (a ++ b) = sameL a ++ sameL b := rfl
theorem flipL_length (a : List UInt8) : (flipL a).length = a.length := List.length_map _
theorem sameL_length (a : List UInt8) : (sameL a).length = a.length := rfl
theorem xor_same (k : Nat) (h : k < 256) : bits BinOp.xor IntKind.u8 (k : Int) 0 = (((UInt8.ofNat k).toNat : Nat) : Int) := by
  rw [ofNat_toNat k h]
  show IntKind.u8.wrap ((BitVec.ofInt 8 (k : Int) ^^^ BitVec.ofInt 8 0).toNat : Int) = _
  have : BitVec.ofInt 8 0 = 0#8 := rfl
  rw [this, BitVec.xor_zero, BitVec.ofInt_natCast, BitVec.toNat_ofNat, Nat.mod_eq_of_lt (by omega)]
  exact IntWalk.u8_in _ (by omega)
theorem xor_flip (k : Nat) (h : k < 256) : bits BinOp.xor IntKind.u8 (k : Int) 255 = (((255 - UInt8.ofNat k).toNat : Nat) : Int) := by
  have H : ∀ k : Fin 256, bits BinOp.xor IntKind.u8 ((k : Nat) : Int) 255 = (((255 - UInt8.ofNat (k : Nat)).toNat : Nat) : Int) := by decide +kernel
  exact H ⟨k, h⟩

set_option maxRecDepth 100000 in
set_option maxHeartbeats 1000000 in
theorem digits_pos (m : Nat) (w : World) (hm : m < 18446744073709551616) :
    Calls Tryz.prog 103 #[.int .u64 m, .int .i64 128, .int .i64 1, .int .u8 0] w fun e w' => ∃ v, e = .returned v ∧ w'.ownsRow w.heap.size 5 1 v ((lebL m).length + 1) (bytesV (UInt8.ofNat (128 + (lebL m).length) :: (sameL (lebL m)).reverse)) ∧ Below w.heap.size w w' := by
  obtain ⟨i0, hi, hz0, hz1, hz2⟩ := info_parts infoB
  have HM := Lib.hid hm
  clear hm
  go_enter Tryz.func103, Tryz.ntmps103
  go_upto_region 2 with (at_make; refine wpList_make_own _ rfl _ _ 130 rfl w.heap.size 5 i0 (.int .u8 0) 1 undBs hi hz0 hz1 .i64 .i64 9 9 rfl rfl rfl (by rw [hz2]; decide) (by decide) (Nat.le_refl _) ?_; intro w3 hown hgr)
  have HB0 : Hid (Below w.heap.size w w3) := Lib.hid ((Below.refl w.heap.size w).grown hgr (Nat.le_refl _) (fun k e => by cases e))
  have HO0 : Hid (w3.ownsRow w.heap.size 5 1 (.slice (some ⟨w.heap.size, 0, none⟩) 0 9) 0 (bytesV (sameL []))) := Lib.hid hown
  clear hown hgr
  go_loopw [0, 9] (fun iv v wr => ∃ (q : Nat) (done : List UInt8), lebL m = done ++ lebL q ∧ q < 18446744073709551616 ∧ iv = .int .u64 q ∧ wr.ownsRow w.heap.size 5 1 v done.length (bytesV (sameL done)) ∧ Below w.heap.size w wr) (fun iv _ _ => (Go.RowKit.intOf iv).toNat)
  case atStart => exact ⟨m, [], rfl, HM.out, rfl, HO0.out, HB0.out⟩
  case round =>
    obtain ⟨q, done, hq, hq64, rfl, hown, hB⟩ := hrel
    clear HO0 HB0
    have HQ := Lib.hid hq
    have HO := Lib.hid hown
    have HB := Lib.hid hB
    have hsz := hB.size
    clear hq hown hB
    by_cases h0 : 0 < q
    · obtain ⟨x, hx⟩ : ∃ x : UInt8, x = UInt8.ofNat (q % 256) := ⟨_, rfl⟩
      have hxx : bits BinOp.xor IntKind.u8 ((q : Int) % 256) 0 = (x.toNat : Int) := by
        have := xor_same (q % 256) (by omega)
        rw [hx, ← this, Int.natCast_emod]
        rfl
      have HX : Hid (lebL m = (done ++ [UInt8.ofNat (q % 256)]) ++ lebL (q / 256)) := by
        refine Lib.hid ?_
        rw [HQ.out, leb_pos (by omega : q ≠ 0)]
        simp
      have HL : Hid (done.length < 8) := by
        refine Lib.hid ?_
        have h1 := leb_len8 HM.out
        rw [HX.out] at h1
        simp at h1
        omega
      have HE : Hid (bytesV (sameL done) ++ [Value.int .u8 (x.toNat : Int)] = bytesV (sameL (done ++ [UInt8.ofNat (q % 256)]))) := by
        refine Lib.hid ?_
        rw [sameL_append, bytesV_append, hx]
        rfl
      clear hx
      have hdiv : q / 256 < q := by omega
      have h0' : decide ((q : Int) > 0) = true := by simp; omega
      go_wp2_with (at_builtin; refine Hid.out ?_)
      refine Lib.hid ?_
      refine wpList_append_own _ rfl _ _ 130 rfl w.heap.size 5 i0 (.int .u8 0) 1 1 undBs hi hz0 hz1 hz2 rfl (by decide) _ _ _ rfl (HO.out.alloc _) ⟨wr.heap.size, 0, none⟩ 1 1 [.int .u8 (x.toNat : Int)] rfl rfl (cells_new _ _ _) (by intro u hu; simp at hu; subst hu; rfl) (by have := HL.out; unfold maxLen; omega) (by have := HL.out; omega) (by simp; omega) ?_
      intro v' w2 hown' hgrow _
      have HO2 : Hid (w2.ownsRow w.heap.size 5 1 v' (done ++ [UInt8.ofNat (q % 256)]).length (bytesV (sameL (done ++ [UInt8.ofNat (q % 256)])))) := by
        refine Lib.hid ?_
        rw [← HE.out, List.length_append]
        exact hown'
      have HB2 : Hid (Below w.heap.size w w2) := Lib.hid ((HB.out.alloc (by omega) _).grown hgrow (by simp; omega) (fun k hk => HO.out.block_ge hk))
      clear hown' hgrow
      go_wp2_with fail
      go_roundw
      case rel => exact ⟨q / 256, done ++ [UInt8.ofNat (q % 256)], HX.out, by omega, by simp, HO2.out, HB2.out⟩
      case measure => simp [Go.RowKit.intOf]; omega
    · obtain rfl : q = 0 := by omega
      have HD : Hid (done = lebL m) := Lib.hid (by rw [HQ.out, leb_zero, List.append_nil])
      clear h0 hq64
      have hl8 : done.length ≤ 8 := by rw [HD.out]; exact leb_len8 HM.out
      obtain ⟨x, hx⟩ : ∃ x : UInt8, x = UInt8.ofNat (128 + done.length) := ⟨_, rfl⟩
      have hxn : x.toNat = 128 + done.length := by rw [hx, ofNat_toNat _ (by omega)]
      have HX := Lib.hid hx
      clear hx
      obtain ⟨ad, cap, rfl⟩ : ∃ ad cap, u9 = .slice ad done.length cap := by
        rcases HO.out.2 with ⟨h1, h2⟩ | ⟨g, cap, cur, h1, _⟩
        · exact ⟨none, 0, by rw [h1, h2]⟩
        · exact ⟨_, _, h1⟩
      go_wp2_with (at_builtin; refine Hid.out ?_)
      refine Lib.hid ?_
      have HV : Hid (bytesV (sameL done) ++ [Value.int .u8 (128 + (done.length : Int))] = bytesV (sameL done ++ [x])) := by
        refine Lib.hid ?_
        rw [bytesV_append]
        have : ((x.toNat : Nat) : Int) = (128 + (done.length : Int)) := by omega
        rw [← this]
        rfl
      refine wpList_append_own _ rfl _ _ 130 rfl w.heap.size 5 i0 (.int .u8 0) 1 1 undBs hi hz0 hz1 hz2 rfl (by decide) _ _ _ rfl (HO.out.alloc _) ⟨wr.heap.size, 0, none⟩ 1 1 [.int .u8 (128 + (done.length : Int))] rfl rfl (cells_new _ _ _) (by intro u hu; simp at hu; subst hu; rfl) (by unfold maxLen; omega) (by omega) (by simp; omega) ?_
      intro v' w2 hown' hgrow _
      have HO2 : Hid (w2.ownsRow w.heap.size 5 1 v' (done.length + 1) (bytesV (sameL done ++ [x]))) := by
        refine Lib.hid ?_
        rw [← HV.out]
        exact hown'
      have HB2 : Hid (Below w.heap.size w w2) := Lib.hid ((HB.out.alloc (by omega) _).grown hgrow (by simp; omega) (fun k hk => HO.out.block_ge hk))
      clear hown' hgrow
      go_wp2_with fail
      refine (reverse_any w.heap.size _ _ _ _ w w.heap.size HO2.out (by omega) HB2.out (Nat.le_refl _)).mono ?_
      rintro e w3 ⟨rfl, hown3, hb3⟩
      have HO3 : Hid (w3.ownsRow w.heap.size 5 1 v' ((lebL m).length + 1) (bytesV (UInt8.ofNat (128 + (lebL m).length) :: (sameL (lebL m)).reverse))) := by
        refine Lib.hid ?_
        rw [← HD.out, ← HX.out]
        simpa using hown3
      have HB3 := Lib.hid hb3
      clear hown3 hb3
      go_wp2_with fail
      go_ret
      exact ⟨_, rfl, HO3.out, HB3.out⟩

set_option maxRecDepth 100000 in
set_option maxHeartbeats 1000000 in
theorem digits_neg (m : Nat) (w : World) (hm : m < 18446744073709551616) :
    Calls Tryz.prog 103 #[.int .u64 m, .int .i64 127, .int .i64 (-1), .int .u8 255] w fun e w' => ∃ v, e = .returned v ∧ w'.ownsRow w.heap.size 5 1 v ((lebL m).length + 1) (bytesV (UInt8.ofNat (127 - (lebL m).length) :: (flipL (lebL m)).reverse)) ∧ Below w.heap.size w w' := by
  obtain ⟨i0, hi, hz0, hz1, hz2⟩ := info_parts infoB
  have HM := Lib.hid hm
  clear hm
  go_enter Tryz.func103, Tryz.ntmps103
  go_upto_region 2 with (at_make; refine wpList_make_own _ rfl _ _ 130 rfl w.heap.size 5 i0 (.int .u8 0) 1 undBs hi hz0 hz1 .i64 .i64 9 9 rfl rfl rfl (by rw [hz2]; decide) (by decide) (Nat.le_refl _) ?_; intro w3 hown hgr)
  have HB0 : Hid (Below w.heap.size w w3) := Lib.hid ((Below.refl w.heap.size w).grown hgr (Nat.le_refl _) (fun k e => by cases e))
  have HO0 : Hid (w3.ownsRow w.heap.size 5 1 (.slice (some ⟨w.heap.size, 0, none⟩) 0 9) 0 (bytesV (flipL []))) := Lib.hid hown
  clear hown hgr
  go_loopw [0, 9] (fun iv v wr => ∃ (q : Nat) (done : List UInt8), lebL m = done ++ lebL q ∧ q < 18446744073709551616 ∧ iv = .int .u64 q ∧ wr.ownsRow w.heap.size 5 1 v done.length (bytesV (flipL done)) ∧ Below w.heap.size w wr) (fun iv _ _ => (Go.RowKit.intOf iv).toNat)
  case atStart => exact ⟨m, [], rfl, HM.out, rfl, HO0.out, HB0.out⟩
  case round =>
    obtain ⟨q, done, hq, hq64, rfl, hown, hB⟩ := hrel
    clear HO0 HB0
    have HQ := Lib.hid hq
    have HO := Lib.hid hown
    have HB := Lib.hid hB
    have hsz := hB.size
    clear hq hown hB
    by_cases h0 : 0 < q
    · obtain ⟨x, hx⟩ : ∃ x : UInt8, x = 255 - UInt8.ofNat (q % 256) := ⟨_, rfl⟩
      have hxx : bits BinOp.xor IntKind.u8 ((q : Int) % 256) 255 = (x.toNat : Int) := by
        have := xor_flip (q % 256) (by omega)
        rw [hx, ← this, Int.natCast_emod]
        rfl
      have HX : Hid (lebL m = (done ++ [UInt8.ofNat (q % 256)]) ++ lebL (q / 256)) := by
        refine Lib.hid ?_
        rw [HQ.out, leb_pos (by omega : q ≠ 0)]
        simp
      have HL : Hid (done.length < 8) := by
        refine Lib.hid ?_
        have h1 := leb_len8 HM.out
        rw [HX.out] at h1
        simp at h1
        omega
      have HE : Hid (bytesV (flipL done) ++ [Value.int .u8 (x.toNat : Int)] = bytesV (flipL (done ++ [UInt8.ofNat (q % 256)]))) := by
        refine Lib.hid ?_
        rw [flipL_append, bytesV_append, hx]
        rfl
      clear hx
      have hdiv : q / 256 < q := by omega
      have h0' : decide ((q : Int) > 0) = true := by simp; omega
      go_wp2_with (at_builtin; refine Hid.out ?_)
      refine Lib.hid ?_
      refine wpList_append_own _ rfl _ _ 130 rfl w.heap.size 5 i0 (.int .u8 0) 1 1 undBs hi hz0 hz1 hz2 rfl (by decide) _ _ _ rfl (HO.out.alloc _) ⟨wr.heap.size, 0, none⟩ 1 1 [.int .u8 (x.toNat : Int)] rfl rfl (cells_new _ _ _) (by intro u hu; simp at hu; subst hu; rfl) (by have := HL.out; unfold maxLen; omega) (by have := HL.out; omega) (by simp; omega) ?_
      intro v' w2 hown' hgrow _
      have HO2 : Hid (w2.ownsRow w.heap.size 5 1 v' (done ++ [UInt8.ofNat (q % 256)]).length (bytesV (flipL (done ++ [UInt8.ofNat (q % 256)])))) := by
        refine Lib.hid ?_
        rw [← HE.out, List.length_append]
        exact hown'
      have HB2 : Hid (Below w.heap.size w w2) := Lib.hid ((HB.out.alloc (by omega) _).grown hgrow (by simp; omega) (fun k hk => HO.out.block_ge hk))
      clear hown' hgrow
      go_wp2_with fail
      go_roundw
      case rel => exact ⟨q / 256, done ++ [UInt8.ofNat (q % 256)], HX.out, by omega, by simp, HO2.out, HB2.out⟩
      case measure => simp [Go.RowKit.intOf]; omega
    · obtain rfl : q = 0 := by omega
      have HD : Hid (done = lebL m) := Lib.hid (by rw [HQ.out, leb_zero, List.append_nil])
      clear h0 hq64
      have hl8 : done.length ≤ 8 := by rw [HD.out]; exact leb_len8 HM.out
      obtain ⟨x, hx⟩ : ∃ x : UInt8, x = UInt8.ofNat (127 - done.length) := ⟨_, rfl⟩
      have hxn : x.toNat = 127 - done.length := by rw [hx, ofNat_toNat _ (by omega)]
      have HX := Lib.hid hx
      clear hx
      obtain ⟨ad, cap, rfl⟩ : ∃ ad cap, u9 = .slice ad done.length cap := by
        rcases HO.out.2 with ⟨h1, h2⟩ | ⟨g, cap, cur, h1, _⟩
        · exact ⟨none, 0, by rw [h1, h2]⟩
        · exact ⟨_, _, h1⟩
      go_wp2_with (at_builtin; refine Hid.out ?_)
      refine Lib.hid ?_
      have HV : Hid (bytesV (flipL done) ++ [Value.int .u8 (127 + -(done.length : Int))] = bytesV (flipL done ++ [x])) := by
        refine Lib.hid ?_
        rw [bytesV_append]
        have : ((x.toNat : Nat) : Int) = (127 + -(done.length : Int)) := by omega
        rw [← this]
        rfl
      refine wpList_append_own _ rfl _ _ 130 rfl w.heap.size 5 i0 (.int .u8 0) 1 1 undBs hi hz0 hz1 hz2 rfl (by decide) _ _ _ rfl (HO.out.alloc _) ⟨wr.heap.size, 0, none⟩ 1 1 [.int .u8 (127 + -(done.length : Int))] rfl rfl (cells_new _ _ _) (by intro u hu; simp at hu; subst hu; rfl) (by unfold maxLen; omega) (by omega) (by simp; omega) ?_
      intro v' w2 hown' hgrow _
      have HO2 : Hid (w2.ownsRow w.heap.size 5 1 v' (done.length + 1) (bytesV (flipL done ++ [x]))) := by
        refine Lib.hid ?_
        rw [← HV.out]
        exact hown'
      have HB2 : Hid (Below w.heap.size w w2) := Lib.hid ((HB.out.alloc (by omega) _).grown hgrow (by simp; omega) (fun k hk => HO.out.block_ge hk))
      clear hown' hgrow
      go_wp2_with fail
      refine (reverse_any w.heap.size _ _ _ _ w w.heap.size HO2.out (by omega) HB2.out (Nat.le_refl _)).mono ?_
      rintro e w3 ⟨rfl, hown3, hb3⟩
      have HO3 : Hid (w3.ownsRow w.heap.size 5 1 v' ((lebL m).length + 1) (bytesV (UInt8.ofNat (127 - (lebL m).length) :: (flipL (lebL m)).reverse))) := by
        refine Lib.hid ?_
        rw [← HD.out, ← HX.out]
        simpa using hown3
      have HB3 := Lib.hid hb3
      clear hown3 hb3
      go_wp2_with fail
      go_ret
      exact ⟨_, rfl, HO3.out, HB3.out⟩

set_option maxRecDepth 100000 in
set_option maxHeartbeats 1000000 in
theorem int_any (n : Int) (w : World) (hn : I64 n) :
    Calls Tryz.prog 86 #[.int .i64 n] w fun e w' => e = .returned (.string ⟨(intL n).toArray⟩) ∧ Below w.heap.size w w' := by
  unfold I64 at hn
  by_cases h0 : 0 ≤ n
  · obtain ⟨m, rfl⟩ : ∃ m : Nat, n = (m : Int) := ⟨n.toNat, by omega⟩
    have HI : Hid (intL (m : Int) = UInt8.ofNat (128 + (lebL m).length) :: (sameL (lebL m)).reverse) := by
      refine Lib.hid ?_
      unfold intL
      rw [if_pos (by omega), Int.toNat_natCast]
      rfl
    go_enter Tryz.func86, Tryz.ntmps86
    go_wp2_with fail
    refine (digits_pos m _ (by omega)).mono ?_
    rintro e w1 ⟨v, rfl, hown, hb⟩
    rw [← HI.out] at hown
    have HO := Lib.hid hown
    have HB := Lib.hid hb
    clear hown hb
    go_wp2_with (refine wpList_string_own rfl 130 9 5 _ rfl undBs undB undS _ rfl w.heap.size _ (intL (m : Int)) HO.out ?_)
    go_wp2_with fail
    go_ret
    exact ⟨rfl, HB.out⟩
  · obtain ⟨m, rfl⟩ : ∃ m : Nat, n = -(m : Int) - 1 := ⟨(-n - 1).toNat, by omega⟩
    have HI : Hid (intL (-(m : Int) - 1) = UInt8.ofNat (127 - (lebL m).length) :: (flipL (lebL m)).reverse) := by
      refine Lib.hid ?_
      unfold intL
      have : (-(-(m : Int) - 1 + 1)).toNat = m := by omega
      rw [if_neg (by omega), this]
      rfl
    have e1 : -(m : Int) - 1 + 1 = -(m : Int) := by omega
    have e2 : IntKind.u64.wrap (m : Int) = (m : Int) := IntWalk.u64_in _ (by omega)
    go_enter Tryz.func86, Tryz.ntmps86
    go_wp2_with fail
    refine (digits_neg m _ (by omega)).mono ?_
    rintro e w1 ⟨v, rfl, hown, hb⟩
    rw [← HI.out] at hown
    have HO := Lib.hid hown
    have HB := Lib.hid hb
    clear hown hb
    go_wp2_with (refine wpList_string_own rfl 130 9 5 _ rfl undBs undB undS _ rfl w.heap.size _ (intL (-(m : Int) - 1)) HO.out ?_)
    go_wp2_with fail
    go_ret
    exact ⟨rfl, HB.out⟩
set_option maxRecDepth 100000 in
set_option maxHeartbeats 1000000 in
theorem num_any (n : Int) (w : World) (hn : I64 n) :
    Calls Tryz.prog 99 #[.int .i64 n] w fun e w' => e = .returned (.string ⟨(numL n).toArray⟩) ∧ Below w.heap.size w w' := by
  have HN := Lib.hid hn
  unfold I64 at hn
  by_cases h0 : n < 0
  · have HI : Hid (numL n = []) := Lib.hid (by unfold numL; rw [if_pos h0])
    rw [HI.out]
    go_enter Tryz.func99, Tryz.ntmps99
    go_wp2_with fail
    go_ret
    exact ⟨rfl, Below.refl _ _⟩
  · have HI : Hid (numL n = intL n) := Lib.hid (by unfold numL; rw [if_neg h0])
    rw [HI.out]
    go_enter Tryz.func99, Tryz.ntmps99
    go_wp2_with fail
    refine (int_any n _ HN.out).mono ?_
    rintro e w1 ⟨rfl, hb⟩
    have HB := Lib.hid hb
    clear hb
    go_wp2_with fail
    go_ret
    exact ⟨rfl, HB.out⟩
end Go.Proofs.YtepidpegoihllaaGreatDoor

