/- frame.Encode returns the frame that the plain function encL says, for payloads of at most 100000 bytes. -/
import Derived.Test.YtonhaoieeefglaaCrc
import Derived.Test.YtonhaoieeefglaaFBuild
namespace Go.Proofs.Ytonhaoieeefglaa
open Go.RowKit
theorem conv_new (w : World) (bs : List UInt8) : (convert 35 9 (.slice (some ⟨w.heap.size, 0, none⟩) bs.length bs.length)).run Try.prog (w.alloc (.cells (bytesV bs).toArray 5)) = .ok (.string ⟨bs.toArray⟩) (w.alloc (.cells (bytesV bs).toArray 5)) := by
  refine run_convert_bytes_back _ _ _ 5 _ bs.length bs undBs undB undS fun j hj => ?_
  rw [Addr.add_mid, Nat.zero_add, cell_of_row _ _ _ _ _ _ (heap_alloc_new w _)]
  simp [bytesV, hj]
/-- the two bytes of a checksum -/
def crcB (l : List UInt8) : List UInt8 := [UInt8.ofNat (crcL l % 256), UInt8.ofNat (crcL l / 256)]
def bodyL (l : List UInt8) : List UInt8 := l ++ crcB l
/-- the frame of a payload; empty where it would be too long -/
def encL (l : List UInt8) : List UInt8 := if 2048 < (escL (bodyL l)).length then [] else 126 :: (escL (bodyL l) ++ [126])
theorem builderAt_alloc {T e : TypeId} {B b : Nat} {p : Value} {bs : List Value} {w : World} (h : Lib.BuilderAt T e B b p bs w) (o : Obj) : Lib.BuilderAt T e B b p bs (w.alloc o) := by
  obtain ⟨hB, v, hb, hown, hne⟩ := h
  exact ⟨hB, v, (Lib.alloc_old w o b (blk_lt hb)).trans hb, hown.alloc o, hne⟩
theorem isBuilder_alloc {T e : TypeId} {B b : Nat} {bs : List Value} {w : World} (h : Lib.IsBuilder T e B b bs w) (o : Obj) : Lib.IsBuilder T e B b bs (w.alloc o) := h.imp (fun h => builderAt_alloc h o) (fun h => builderAt_alloc h o)
set_option maxHeartbeats 2000000 in
set_option maxRecDepth 100000 in
theorem encode_any (s : ByteArray) (w : World) (hs : s.size ≤ 100000) :
    Calls Try.prog 13 #[.string s] w fun e w' => e = .returned (.string ⟨(encL s.data.toList).toArray⟩) ∧ Below w.heap.size w w' := by
  go_enter Try.func13, Try.ntmps13
  go_wp2_with fail
  refine (crc_any s _ (by unfold maxLen; omega)).mono ?_
  rintro e w' ⟨rfl, rfl⟩
  have hn := crcL_lt s.data.toList
  have HC : Hid (crcB s.data.toList = [UInt8.ofNat (crcL s.data.toList % 256), UInt8.ofNat (crcL s.data.toList / 256)]) := rfl
  have HE : Hid (encL s.data.toList = if 2048 < (escL s.data.toList ++ escL (crcB s.data.toList)).length then [] else 126 :: ((escL s.data.toList ++ escL (crcB s.data.toList)) ++ [126])) := by
    refine Lib.hid ?_
    unfold encL bodyL
    rw [escL_append]
  have HL : Hid ((escL s.data.toList).length ≤ 200000) := Lib.hid (by have := escL_len s.data.toList; simp at this; omega)
  generalize crcL s.data.toList = n at *
  go_wp2_with fail
  have hI := Lib.fresh_isBuilder 47 5 w
  have hB0 : Below w.heap.size w (w.alloc (.cells #[.pointer none, .slice none 0 0] 47)) := (Below.refl _ _).alloc (Nat.le_refl _) _
  refine (writeByte_any w.heap.size w.heap.size [] 126 _ hI (by simp) hB0.size).mono ?_
  rintro e w1 ⟨rfl, hI1, hB1⟩
  have HI1 : Hid (Lib.IsBuilder 47 5 w.heap.size w.heap.size (Lib.byteCells [126]) w1) := Lib.hid (Or.inr hI1)
  have HB1 := Lib.hid (hB0.trans hB1)
  clear hI hB0 hI1 hB1
  go_wp2_with fail
  refine (escaped_any _ _ [126] s _ HI1.out (by simp; omega) HB1.out.size).mono ?_
  rintro e w2 ⟨rfl, hI2, hB2⟩
  have HI2 := Lib.hid hI2
  have HB2 := Lib.hid (HB1.out.trans hB2)
  clear hI2 hB2 HI1 HB1
  go_upto_region 5 with (fail)
  have hc := conv_new w2 [UInt8.ofNat (n % 256), UInt8.ofNat (n / 256)]
  have e1 : (((UInt8.ofNat (n % 256)).toNat : Nat) : Int) = (n : Int) % 256 := by rw [UInt8.toNat_ofNat']; omega
  have e2 : (((UInt8.ofNat (n / 256)).toNat : Nat) : Int) = (n : Int) / 256 := by rw [UInt8.toNat_ofNat']; omega
  simp only [bytesV, List.map_cons, List.map_nil, e1, e2, List.length_cons, List.length_nil, Nat.zero_add, Nat.reduceAdd] at hc
  have hX : (⟨[UInt8.ofNat (n % 256), UInt8.ofNat (n / 256)].toArray⟩ : ByteArray).size = 2 := rfl
  have HX : Hid ((⟨[UInt8.ofNat (n % 256), UInt8.ofNat (n / 256)].toArray⟩ : ByteArray).data.toList = crcB s.data.toList) := Lib.hid (by rw [HC.out])
  clear e1 e2
  generalize (⟨[UInt8.ofNat (n % 256), UInt8.ofNat (n / 256)].toArray⟩ : ByteArray) = X at *
  go_wp2_with fail
  have HI3 := Lib.hid (isBuilder_alloc HI2.out (.cells #[.int .u8 ((n : Int) % 256), .int .u8 ((n : Int) / 256)] 5))
  have HB3 := Lib.hid (HB2.out.alloc HB2.out.size (.cells #[.int .u8 ((n : Int) % 256), .int .u8 ((n : Int) / 256)] 5))
  clear hc HI2 HB2
  generalize w2.alloc (.cells #[.int .u8 ((n : Int) % 256), .int .u8 ((n : Int) / 256)] 5) = w3 at *
  refine (escaped_any _ _ _ X _ HI3.out (by have := HL.out; simp; omega) HB3.out.size).mono ?_
  rintro e w4 ⟨rfl, hI4, hB4⟩
  rw [HX.out] at hI4
  have HI4 := Lib.hid hI4
  have HB4 := Lib.hid (HB3.out.trans hB4)
  have hl4 : (escL (crcB s.data.toList)).length ≤ 4 := by
    have := escL_len (crcB s.data.toList)
    rw [HC.out] at this ⊢
    simpa using this
  have HL4 : Hid ((escL s.data.toList ++ escL (crcB s.data.toList)).length ≤ 200004) := Lib.hid (by rw [List.length_append]; have := HL.out; omega)
  have HI5 : Hid (Lib.IsBuilder 47 5 w.heap.size w.heap.size (Lib.byteCells (126 :: (escL s.data.toList ++ escL (crcB s.data.toList)))) w4) := Lib.hid (by
    have := HI4.out
    simpa using this)
  clear hI4 hB4 HI4 HI3 HB3 hl4 HL
  generalize escL s.data.toList ++ escL (crcB s.data.toList) = b at *
  go_wp2_with fail
  refine (Try.Builder_Len _ _ _ _ HI5.out).mono ?_
  rintro e w5 ⟨rfl, rfl⟩
  rw [Lib.byteCells_length, List.length_cons]
  have hb := HL4.out
  by_cases hlim : 2048 < b.length
  · have HE2 := HE.out
    rw [if_pos hlim] at HE2
    have HE3 := Lib.hid HE2
    clear HE HE2
    go_wp2_with fail
    rw [HE3.out]
    go_ret
    exact ⟨rfl, HB4.out⟩
  · have HE2 := HE.out
    rw [if_neg hlim] at HE2
    have HE3 := Lib.hid HE2
    clear HE HE2
    go_wp2_with fail
    refine (writeByte_any _ _ _ 126 _ HI5.out (by rw [Lib.byteCells_length, List.length_cons]; omega) HB4.out.size).mono ?_
    rintro e w6 ⟨rfl, hI6, hB6⟩
    have HI6 : Hid (Lib.IsBuilder 47 5 w.heap.size w.heap.size (Lib.byteCells (126 :: (b ++ [126]))) w6) := Lib.hid (Or.inr (by
      have e : Lib.byteCells (126 :: (b ++ [126])) = Lib.byteCells (126 :: b) ++ [.int .u8 126] := by simp [Lib.byteCells]
      rw [e]
      exact hI6))
    have HB6 := Lib.hid (HB4.out.trans hB6)
    clear hI6 hB6
    go_wp2_with fail
    refine (Try.Builder_String_any _ _ _ _ HI6.out HB6.out.size).mono ?_
    rintro e w7 ⟨rfl, hb7⟩
    have HB7 := Lib.hid (HB6.out.trans hb7)
    clear hb7
    rw [← HE3.out]
    go_wp2_with fail
    go_ret
    exact ⟨rfl, HB7.out⟩
end Go.Proofs.Ytonhaoieeefglaa
