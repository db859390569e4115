/- Texts merged: XHShelf XHBuild XHEnc XHPlain XHSeg -/
import Derived.Shelf.Strings.Builder1
import Derived.Shelf.Small.Strs
import Derived.Shelf.Strings.Search1
import Derived.Shelf.Strings.LastIndex
import Derived.Test.YtmlfkhpmgjcliaaDoorProg
import Derived.Test.YtmlfkhpmgjcliaaDoorBytes
import Derived.Test.YtmlfkhpmgjcliaaDoorWBuild
import Derived.Lib.UnsafeStr
import Derived.Laws.Externs
import Derived.Test.YtmlfkhpmgjcliaaDoorCrc
import Derived.Lib.Bytealg
/- The library functions that package frame calls beside those of XWShelf, by contract: Len of a builder, LastIndexByte (laid by the shelf of the kit, in plain words). -/
namespace Go.Proofs
open Go.Shelf
def Tryd.lays170_ren : Go.Shelf.Ren := ⟨fun | 170 => 47 | n => n, fun | 70 => 70 | 3 => 3 | 0 => 0 | 72 => 72 | 37 => 65 | 5 => 5 | n => n, fun | n => n⟩
theorem Tryd.lays170 : Go.Proofs.Lays.n170 Tryd.prog Tryd.lays170_ren := {
  mixed := by kernel_rfl
  f170 := Tryd.func47.trans (congrArg some (by kernel_rfl))
  t0 := Tryd.underlying0
  a0 := Tryd.isAgg0
  z0 := Tryd.sizeOf0
  v0 := Tryd.zeroValue0
  t3 := Tryd.underlying3
  a3 := Tryd.isAgg3
  z3 := Tryd.sizeOf3
  v3 := Tryd.zeroValue3
  t37 := Tryd.underlying65
  a37 := Tryd.isAgg65
  z37 := Tryd.sizeOf65
  v37 := Tryd.zeroValue65
  t70 := Tryd.underlying70
  a70 := Tryd.isAgg70
  z70 := Tryd.sizeOf70
  v70 := Tryd.zeroValue70
  t72 := Tryd.underlying72
  a72 := Tryd.isAgg72
  z72 := Tryd.sizeOf72
  v72 := Tryd.zeroValue72 }
open Go.RowKit in
theorem Tryd.Builder_Len (B b : Nat) (bs : List Value) (w : World) (h : Lib.IsBuilder 72 5 B b bs w) :
    Calls Tryd.prog 47 #[.pointer (some ⟨b, 0, none⟩)] w fun e w' => e = .returned (.int .i64 bs.length) ∧ w' = w := Any.Builder_Len Tryd.lays170 B b bs w h
def Tryd.lays149_ren : Go.Shelf.Ren := ⟨fun | 149 => 51 | 222 => 64 | n => n, fun | 9 => 9 | 5 => 5 | 3 => 3 | 4 => 4 | n => n, fun | n => n⟩
theorem Tryd.lays149 : Go.Proofs.Lays.n149 Tryd.prog Tryd.lays149_ren := {
  mixed := by kernel_rfl
  f149 := Tryd.func51.trans (congrArg some (by kernel_rfl))
  f222 := Tryd.func64.trans (congrArg some (by kernel_rfl))
  t3 := Tryd.underlying3
  a3 := Tryd.isAgg3
  z3 := Tryd.sizeOf3
  v3 := Tryd.zeroValue3
  t4 := Tryd.underlying4
  a4 := Tryd.isAgg4
  z4 := Tryd.sizeOf4
  v4 := Tryd.zeroValue4
  t5 := Tryd.underlying5
  a5 := Tryd.isAgg5
  z5 := Tryd.sizeOf5
  v5 := Tryd.zeroValue5
  t9 := Tryd.underlying9
  a9 := Tryd.isAgg9
  z9 := Tryd.sizeOf9
  v9 := Tryd.zeroValue9 }
open Go.RowKit Go.Lib in
theorem Tryd.strings_LastIndexByte (s : ByteArray) (c : Int) (hs : s.size < 4611686018427387904) (w : World) :
    Calls Tryd.prog 51 #[.string s, .int .u8 c] w fun e w' => e = .returned (.int .i64 (Lib.lastIndexByte s c)) ∧ w' = w := Any.strings_LastIndexByte Tryd.lays149 s c hs w
end Go.Proofs
/- strings.Builder: copyCheck and WriteByte on a builder that the call itself has made. -/
namespace Go.Proofs.YtmlfkhpmgjcliaaDoor
open Go.RowKit
/-- a byte as it is written into a frame -/
def escB (c : UInt8) : List UInt8 := if c = 126 then [125, 94] else if c = 125 then [125, 93] else [c]
def escL : List UInt8 → List UInt8
  | [] => []
  | c :: l => escB c ++ escL l
theorem escL_append (a b : List UInt8) : escL (a ++ b) = escL a ++ escL b := by
  induction a with
  | nil => rfl
  | cons x a ih => simp [escL, ih]
theorem escB_len (c : UInt8) : 1 ≤ (escB c).length ∧ (escB c).length ≤ 2 := by
  unfold escB
  split
  · simp
  · split <;> simp
theorem escL_len (l : List UInt8) : (escL l).length ≤ 2 * l.length := by
  induction l with
  | nil => simp [escL]
  | cons x l ih =>
    have := (escB_len x).2
    simp only [escL, List.length_append, List.length_cons]
    omega
theorem escL_take (l : List UInt8) (k : Nat) (h : k < l.length) : escL (l.take (k + 1)) = escL (l.take k) ++ escB l[k] := by
  rw [List.take_succ_eq_append_getElem h, escL_append]
  simp [escL]
set_option maxHeartbeats 2000000 in
set_option maxRecDepth 100000 in
theorem escaped_any (B b : Nat) (pre : List UInt8) (s : ByteArray) (w : World) (h : Lib.IsBuilder 72 5 B b (Lib.byteCells pre) w) (hlen : pre.length + 2 * s.size ≤ 1000000) (hBw : B ≤ w.heap.size) :
    Calls Tryd.prog 46 #[.pointer (some ⟨b, 0, none⟩), .string s] w fun e w' => e = .returned (.tuple #[]) ∧ Lib.IsBuilder 72 5 B b (Lib.byteCells (pre ++ escL s.data.toList)) w' ∧ Below B w w' := by
  go_enter Tryd.func46, Tryd.ntmps46
  have H := Lib.hid h
  clear h
  go_wp2_with fail
  go_loopw [7] (fun i wr => ∃ k : Nat, k ≤ s.size ∧ i = .int .i64 k ∧ Lib.IsBuilder 72 5 B b (Lib.byteCells (pre ++ escL (s.data.toList.take k))) wr ∧ Below B w wr) (fun i _ => s.size - (intOf i).toNat)
  case atStart => exact ⟨0, by omega, rfl, by simpa [escL] using H.out, Below.refl _ _⟩
  case round =>
    obtain ⟨k, hk, rfl, hI, hB⟩ := hrel
    have HI := Lib.hid hI
    have HB := Lib.hid hB
    clear hI hB H
    have hsz : B ≤ wr.heap.size := Nat.le_trans hBw HB.out.size
    by_cases hlt : k < s.size
    · have HT : Hid (escL (s.data.toList.take (k + 1)) = escL (s.data.toList.take k) ++ escB s[k]) := Lib.hid (escL_take _ k (by simpa using hlt))
      have HL : Hid ((Lib.byteCells (pre ++ escL (s.data.toList.take k))).length + 2 ≤ 2000000) := by
        refine Lib.hid ?_
        have h1 := escL_len (s.data.toList.take k)
        have h2 : (s.data.toList.take k).length ≤ k := List.length_take_le _ _
        simp only [Lib.byteCells, List.length_map, List.length_append]
        omega
      have hb := (s[k]).toNat_lt
      have HE : Hid (escB s[k] = if s[k] = 126 then [125, 94] else if s[k] = 125 then [125, 93] else [s[k]]) := rfl
      by_cases h1 : s[k].toNat = 126
      · have hc : s[k] = 126 := UInt8.toNat_inj.1 (by rw [h1]; rfl)
        rw [if_pos hc] at HE
        have e1 : ((s[k].toNat : Int) == 126) = true := beq_iff_eq.2 (by omega)
        clear h1
        go_wp2_with fail
        refine (writeByte_any B b _ 125 _ HI.out (by have := HL.out; omega) hsz).mono ?_
        rintro e w1 ⟨rfl, hI1, hB1⟩
        go_wp2_with fail
        refine (writeByte_any B b _ 94 _ (Or.inr hI1) (by have := HL.out; simp; omega) (Nat.le_trans hsz hB1.size)).mono ?_
        rintro e w2 ⟨rfl, hI2, hB2⟩
        have HI2 : Hid (Lib.IsBuilder 72 5 B b (Lib.byteCells (pre ++ escL (s.data.toList.take (k + 1)))) w2) := by
          refine Lib.hid (Or.inr ?_)
          rw [HT.out, HE.out, ← List.append_assoc, byteCells_append]
          simpa [Lib.byteCells] using hI2
        have HB2 : Hid (Below B w w2) := Lib.hid ((HB.out.trans hB1).trans hB2)
        clear hI1 hB1 hI2 hB2
        go_wp2_with fail
        go_roundw
        case rel => exact ⟨k + 1, by omega, by go_num, HI2.out, HB2.out⟩
        case measure => simp [intOf]; omega
      · have hc : ¬ s[k] = 126 := fun e => h1 (by rw [e]; rfl)
        rw [if_neg hc] at HE
        have e1 : ((s[k].toNat : Int) == 126) = false := beq_eq_false_iff_ne.2 (by omega)
        clear h1
        by_cases h1 : s[k].toNat = 125
        · have hc : s[k] = 125 := UInt8.toNat_inj.1 (by rw [h1]; rfl)
          rw [if_pos hc] at HE
          have e2 : ((s[k].toNat : Int) == 125) = true := beq_iff_eq.2 (by omega)
          clear h1
          go_wp2_with fail
          refine (writeByte_any B b _ 125 _ HI.out (by have := HL.out; omega) hsz).mono ?_
          rintro e w1 ⟨rfl, hI1, hB1⟩
          go_wp2_with fail
          refine (writeByte_any B b _ 93 _ (Or.inr hI1) (by have := HL.out; simp; omega) (Nat.le_trans hsz hB1.size)).mono ?_
          rintro e w2 ⟨rfl, hI2, hB2⟩
          have HI2 : Hid (Lib.IsBuilder 72 5 B b (Lib.byteCells (pre ++ escL (s.data.toList.take (k + 1)))) w2) := by
            refine Lib.hid (Or.inr ?_)
            rw [HT.out, HE.out, ← List.append_assoc, byteCells_append]
            simpa [Lib.byteCells] using hI2
          have HB2 : Hid (Below B w w2) := Lib.hid ((HB.out.trans hB1).trans hB2)
          clear hI1 hB1 hI2 hB2
          go_wp2_with fail
          go_roundw
          case rel => exact ⟨k + 1, by omega, by go_num, HI2.out, HB2.out⟩
          case measure => simp [intOf]; omega
        · have hc : ¬ s[k] = 125 := fun e => h1 (by rw [e]; rfl)
          rw [if_neg hc] at HE
          have e2 : ((s[k].toNat : Int) == 125) = false := beq_eq_false_iff_ne.2 (by omega)
          clear h1
          go_wp2_with fail
          refine (writeByte_any B b _ _ _ HI.out (by have := HL.out; omega) hsz).mono ?_
          rintro e w1 ⟨rfl, hI1, hB1⟩
          have HI2 : Hid (Lib.IsBuilder 72 5 B b (Lib.byteCells (pre ++ escL (s.data.toList.take (k + 1)))) w1) := by
            refine Lib.hid (Or.inr ?_)
            rw [HT.out, HE.out, ← List.append_assoc, byteCells_append]
            simpa [Lib.byteCells] using hI1
          have HB2 : Hid (Below B w w1) := Lib.hid (HB.out.trans hB1)
          clear hI1 hB1
          go_wp2_with fail
          go_roundw
          case rel => exact ⟨k + 1, by omega, by go_num, HI2.out, HB2.out⟩
          case measure => simp [intOf]; omega
    · obtain rfl : k = s.size := by omega
      clear hlt hk
      have ht : s.data.toList.take s.size = s.data.toList := List.take_of_length_le (by simp)
      rw [ht] at HI
      go_wp2_with fail
      go_end0
      exact ⟨rfl, HI.out, HB.out⟩
end Go.Proofs.YtmlfkhpmgjcliaaDoor
/- frame.Encode returns the frame that the plain function encL says, for payloads of at most 100000 bytes. -/
namespace Go.Proofs.YtmlfkhpmgjcliaaDoor
open Go.RowKit
theorem conv_new (w : World) (bs : List UInt8) : (convert 65 9 (.slice (some ⟨w.heap.size, 0, none⟩) bs.length bs.length)).run Tryd.prog (w.alloc (.cells (bytesV bs).toArray 5)) = .ok (.string ⟨bs.toArray⟩) (w.alloc (.cells (bytesV bs).toArray 5)) := by
  refine run_convert_bytes_back _ _ _ 5 _ bs.length bs undBs undB undS fun j hj => ?_
  rw [Addr.add_mid, Nat.zero_add, cell_of_row _ _ _ _ _ _ (heap_alloc_new w _)]
  simp [bytesV, hj]
/-- the two bytes of a checksum -/
def crcB (l : List UInt8) : List UInt8 := [UInt8.ofNat (crcL l % 256), UInt8.ofNat (crcL l / 256)]
def bodyL (l : List UInt8) : List UInt8 := l ++ crcB l
/-- the frame of a payload; empty where it would be too long -/
def encL (l : List UInt8) : List UInt8 := if 2048 < (escL (bodyL l)).length then [] else 126 :: (escL (bodyL l) ++ [126])
theorem builderAt_alloc {T e : TypeId} {B b : Nat} {p : Value} {bs : List Value} {w : World} (h : Lib.BuilderAt T e B b p bs w) (o : Obj) : Lib.BuilderAt T e B b p bs (w.alloc o) := by
  obtain ⟨hB, v, hb, hown, hne⟩ := h
  exact ⟨hB, v, (Lib.alloc_old w o b (blk_lt hb)).trans hb, hown.alloc o, hne⟩
theorem isBuilder_alloc {T e : TypeId} {B b : Nat} {bs : List Value} {w : World} (h : Lib.IsBuilder T e B b bs w) (o : Obj) : Lib.IsBuilder T e B b bs (w.alloc o) := h.imp (fun h => builderAt_alloc h o) (fun h => builderAt_alloc h o)
set_option maxHeartbeats 2000000 in
set_option maxRecDepth 100000 in
theorem encode_any (s : ByteArray) (w : World) (hs : s.size ≤ 100000) :
    Calls Tryd.prog 23 #[.string s] w fun e w' => e = .returned (.string ⟨(encL s.data.toList).toArray⟩) ∧ Below w.heap.size w w' := by
  go_enter Tryd.func23, Tryd.ntmps23
  go_wp2_with fail
  refine (crc_any s _ (by unfold maxLen; omega)).mono ?_
  rintro e w' ⟨rfl, rfl⟩
  have hn := crcL_lt s.data.toList
  have HC : Hid (crcB s.data.toList = [UInt8.ofNat (crcL s.data.toList % 256), UInt8.ofNat (crcL s.data.toList / 256)]) := rfl
  have HE : Hid (encL s.data.toList = if 2048 < (escL s.data.toList ++ escL (crcB s.data.toList)).length then [] else 126 :: ((escL s.data.toList ++ escL (crcB s.data.toList)) ++ [126])) := by
    refine Lib.hid ?_
    unfold encL bodyL
    rw [escL_append]
  have HL : Hid ((escL s.data.toList).length ≤ 200000) := Lib.hid (by have := escL_len s.data.toList; simp at this; omega)
  generalize crcL s.data.toList = n at *
  go_wp2_with fail
  have hI := Lib.fresh_isBuilder 72 5 w
  have hB0 : Below w.heap.size w (w.alloc (.cells #[.pointer none, .slice none 0 0] 72)) := (Below.refl _ _).alloc (Nat.le_refl _) _
  refine (writeByte_any w.heap.size w.heap.size [] 126 _ hI (by simp) hB0.size).mono ?_
  rintro e w1 ⟨rfl, hI1, hB1⟩
  have HI1 : Hid (Lib.IsBuilder 72 5 w.heap.size w.heap.size (Lib.byteCells [126]) w1) := Lib.hid (Or.inr hI1)
  have HB1 := Lib.hid (hB0.trans hB1)
  clear hI hB0 hI1 hB1
  go_wp2_with fail
  refine (escaped_any _ _ [126] s _ HI1.out (by simp; omega) HB1.out.size).mono ?_
  rintro e w2 ⟨rfl, hI2, hB2⟩
  have HI2 := Lib.hid hI2
  have HB2 := Lib.hid (HB1.out.trans hB2)
  clear hI2 hB2 HI1 HB1
  go_upto_region 5 with (fail)
  have hc := conv_new w2 [UInt8.ofNat (n % 256), UInt8.ofNat (n / 256)]
  have e1 : (((UInt8.ofNat (n % 256)).toNat : Nat) : Int) = (n : Int) % 256 := by rw [UInt8.toNat_ofNat']; omega
  have e2 : (((UInt8.ofNat (n / 256)).toNat : Nat) : Int) = (n : Int) / 256 := by rw [UInt8.toNat_ofNat']; omega
  simp only [bytesV, List.map_cons, List.map_nil, e1, e2, List.length_cons, List.length_nil, Nat.zero_add, Nat.reduceAdd] at hc
  have hX : (⟨[UInt8.ofNat (n % 256), UInt8.ofNat (n / 256)].toArray⟩ : ByteArray).size = 2 := rfl
  have HX : Hid ((⟨[UInt8.ofNat (n % 256), UInt8.ofNat (n / 256)].toArray⟩ : ByteArray).data.toList = crcB s.data.toList) := Lib.hid (by rw [HC.out])
  clear e1 e2
  generalize (⟨[UInt8.ofNat (n % 256), UInt8.ofNat (n / 256)].toArray⟩ : ByteArray) = X at *
  go_wp2_with fail
  have HI3 := Lib.hid (isBuilder_alloc HI2.out (.cells #[.int .u8 ((n : Int) % 256), .int .u8 ((n : Int) / 256)] 5))
  have HB3 := Lib.hid (HB2.out.alloc HB2.out.size (.cells #[.int .u8 ((n : Int) % 256), .int .u8 ((n : Int) / 256)] 5))
  clear hc HI2 HB2
  generalize w2.alloc (.cells #[.int .u8 ((n : Int) % 256), .int .u8 ((n : Int) / 256)] 5) = w3 at *
  refine (escaped_any _ _ _ X _ HI3.out (by have := HL.out; simp; omega) HB3.out.size).mono ?_
  rintro e w4 ⟨rfl, hI4, hB4⟩
  rw [HX.out] at hI4
  have HI4 := Lib.hid hI4
  have HB4 := Lib.hid (HB3.out.trans hB4)
  have hl4 : (escL (crcB s.data.toList)).length ≤ 4 := by
    have := escL_len (crcB s.data.toList)
    rw [HC.out] at this ⊢
    simpa using this
  have HL4 : Hid ((escL s.data.toList ++ escL (crcB s.data.toList)).length ≤ 200004) := Lib.hid (by rw [List.length_append]; have := HL.out; omega)
  have HI5 : Hid (Lib.IsBuilder 72 5 w.heap.size w.heap.size (Lib.byteCells (126 :: (escL s.data.toList ++ escL (crcB s.data.toList)))) w4) := Lib.hid (by
    have := HI4.out
    simpa using this)
  clear hI4 hB4 HI4 HI3 HB3 hl4 HL
  generalize escL s.data.toList ++ escL (crcB s.data.toList) = b at *
  go_wp2_with fail
  refine (Tryd.Builder_Len _ _ _ _ HI5.out).mono ?_
  rintro e w5 ⟨rfl, rfl⟩
  rw [Lib.byteCells_length, List.length_cons]
  have hb := HL4.out
  by_cases hlim : 2048 < b.length
  · have HE2 := HE.out
    rw [if_pos hlim] at HE2
    have HE3 := Lib.hid HE2
    clear HE HE2
    go_wp2_with fail
    rw [HE3.out]
    go_ret
    exact ⟨rfl, HB4.out⟩
  · have HE2 := HE.out
    rw [if_neg hlim] at HE2
    have HE3 := Lib.hid HE2
    clear HE HE2
    go_wp2_with fail
    refine (writeByte_any _ _ _ 126 _ HI5.out (by rw [Lib.byteCells_length, List.length_cons]; omega) HB4.out.size).mono ?_
    rintro e w6 ⟨rfl, hI6, hB6⟩
    have HI6 : Hid (Lib.IsBuilder 72 5 w.heap.size w.heap.size (Lib.byteCells (126 :: (b ++ [126]))) w6) := Lib.hid (Or.inr (by
      have e : Lib.byteCells (126 :: (b ++ [126])) = Lib.byteCells (126 :: b) ++ [.int .u8 126] := by simp [Lib.byteCells]
      rw [e]
      exact hI6))
    have HB6 := Lib.hid (HB4.out.trans hB6)
    clear hI6 hB6
    go_wp2_with fail
    refine (Tryd.Builder_String_any _ _ _ _ HI6.out HB6.out.size).mono ?_
    rintro e w7 ⟨rfl, hb7⟩
    have HB7 := Lib.hid (HB6.out.trans hb7)
    clear hb7
    rw [← HE3.out]
    go_wp2_with fail
    go_ret
    exact ⟨rfl, HB7.out⟩
end Go.Proofs.YtmlfkhpmgjcliaaDoor
/- Frames as plain functions on lists of bytes: what a stretch contains. -/
namespace Go.Proofs.YtmlfkhpmgjcliaaDoor
open Go.RowKit
theorem index_str (s : ByteArray) (i : Int) (n : Nat) (hi : i = (n : Int)) (hn : n < s.size) (w : World) : (Instr.index 9 (.string s) (.int .i64 i)).run Tryd.prog w = .ok (.int .u8 (s[n].toNat : Int)) w := by
  subst hi
  have h0 : (0 : Int) ≤ (n : Int) := Int.natCast_nonneg _
  have h : s[n]? = some s[n] := by simp [hn]
  simp [Instr.index, asIntOf, run_underlying undS, h]
/-- the bytes of an escaped form -/
def unescL : List UInt8 → Option (List UInt8)
  | [] => some []
  | [c] => if c = 125 then none else some [c]
  | c :: d :: l => if c = 125 then (if d = 94 then (unescL l).map (126 :: ·) else if d = 93 then (unescL l).map (125 :: ·) else none) else (unescL (d :: l)).map (c :: ·)
theorem unesc_plain {c : UInt8} (h : ¬ c = 125) (l : List UInt8) : unescL (c :: l) = (unescL l).map (c :: ·) := by
  cases l with
  | nil => simp [unescL, h]
  | cons d l => simp [unescL, h]
theorem unesc_flag (l : List UInt8) : unescL (125 :: 94 :: l) = (unescL l).map (126 :: ·) := by simp [unescL]
theorem unesc_esc (l : List UInt8) : unescL (125 :: 93 :: l) = (unescL l).map (125 :: ·) := by simp [unescL]
theorem unesc_bad {d : UInt8} (h : ¬ d = 94) (h2 : ¬ d = 93) (l : List UInt8) : unescL (125 :: d :: l) = none := by simp [unescL, h, h2]
theorem unesc_end : unescL [125] = none := by simp [unescL]
theorem drop_at {l : List UInt8} {k : Nat} {c : UInt8} (h : l[k]? = some c) : l.drop k = c :: l.drop (k + 1) := by
  obtain ⟨h1, h2⟩ := List.getElem?_eq_some_iff.1 h
  rw [← h2]
  exact List.drop_eq_getElem_cons h1
theorem unesc_step1 {l pre : List UInt8} {k : Nat} {c : UInt8} (h : unescL l = (unescL (l.drop k)).map fun t => pre ++ t) (hc : l[k]? = some c) (hn : ¬ c = 125) : unescL l = (unescL (l.drop (k + 1))).map fun t => (pre ++ [c]) ++ t := by
  rw [h, drop_at hc, unesc_plain hn, Option.map_map]
  congr 1
  funext t
  simp
theorem unesc_step2 {l pre : List UInt8} {k : Nat} {d x : UInt8} (h : unescL l = (unescL (l.drop k)).map fun t => pre ++ t) (hc : l[k]? = some 125) (hd : l[k + 1]? = some d) (hx : d = 94 ∧ x = 126 ∨ d = 93 ∧ x = 125) : unescL l = (unescL (l.drop (k + 2))).map fun t => (pre ++ [x]) ++ t := by
  rw [h, drop_at hc, drop_at hd]
  rcases hx with ⟨rfl, rfl⟩ | ⟨rfl, rfl⟩
  · rw [unesc_flag, Option.map_map]
    congr 1
    funext t
    simp
  · rw [unesc_esc, Option.map_map]
    congr 1
    funext t
    simp
theorem unesc_fail2 {l pre : List UInt8} {k : Nat} {d : UInt8} (h : unescL l = (unescL (l.drop k)).map fun t => pre ++ t) (hc : l[k]? = some 125) (hd : l[k + 1]? = some d) (h1 : ¬ d = 94) (h2 : ¬ d = 93) : unescL l = none := by
  rw [h, drop_at hc, drop_at hd, unesc_bad h1 h2]
  rfl
theorem unesc_fail1 {l pre : List UInt8} {k : Nat} (h : unescL l = (unescL (l.drop k)).map fun t => pre ++ t) (hc : l[k]? = some 125) (hk : l.length = k + 1) : unescL l = none := by
  rw [h, drop_at hc, List.drop_of_length_le (by omega), unesc_end]
  rfl
theorem unesc_done {l pre : List UInt8} {k : Nat} (h : unescL l = (unescL (l.drop k)).map fun t => pre ++ t) (hk : l.length = k) : unescL l = some pre := by
  rw [h, List.drop_of_length_le (by omega)]
  simp [unescL]
theorem unesc_start (l : List UInt8) : unescL l = (unescL (l.drop 0)).map fun t => [] ++ t := by
  cases h : unescL l <;> simp [h]
theorem unesc_len : ∀ (n : Nat) (l b : List UInt8), l.length ≤ n → unescL l = some b → b.length ≤ l.length
  | _, [], b, _, h => by simp [unescL] at h; subst h; simp
  | n + 1, c :: l, b, hn, h => by
    by_cases hc : c = 125
    · subst hc
      cases l with
      | nil => simp [unescL] at h
      | cons d l =>
        by_cases h1 : d = 94
        · subst h1
          rw [unesc_flag] at h
          obtain ⟨y, hy, rfl⟩ := Option.map_eq_some_iff.1 h
          have := unesc_len n l y (by simp at hn; omega) hy
          simp; omega
        · by_cases h2 : d = 93
          · subst h2
            rw [unesc_esc] at h
            obtain ⟨y, hy, rfl⟩ := Option.map_eq_some_iff.1 h
            have := unesc_len n l y (by simp at hn; omega) hy
            simp; omega
          · rw [unesc_bad h1 h2] at h; cases h
    · rw [unesc_plain hc] at h
      obtain ⟨y, hy, rfl⟩ := Option.map_eq_some_iff.1 h
      have := unesc_len n l y (by simp at hn; omega) hy
      simp; omega
/-- is the body of a frame right? -/
def bodyOk (b : List UInt8) : Bool := decide (2 ≤ b.length) && decide (crcL (b.take (b.length - 2)) = (b[b.length - 2]?.getD 0).toNat + 256 * (b[b.length - 1]?.getD 0).toNat)
/-- the payload of a stretch -/
def payOpt (l : List UInt8) : Option (List UInt8) :=
  if 2048 < l.length then none else match unescL l with
  | none => none
  | some b => if bodyOk b then some (b.take (b.length - 2)) else none
theorem payOpt_long {l : List UInt8} (h : 2048 < l.length) : payOpt l = none := by unfold payOpt; rw [if_pos h]
theorem payOpt_none {l : List UInt8} (h : unescL l = none) : payOpt l = none := by unfold payOpt; rw [h]; split <;> rfl
theorem payOpt_some {l b : List UInt8} (h0 : ¬ 2048 < l.length) (h : unescL l = some b) : payOpt l = if bodyOk b then some (b.take (b.length - 2)) else none := by unfold payOpt; rw [if_neg h0, h]
def PayPost (l : List UInt8) (w : World) (e : Ending) (w' : World) : Prop :=
  ∃ p : List UInt8, e = .returned (.tuple #[.string ⟨p.toArray⟩, .bool (payOpt l).isSome]) ∧ (∀ q, payOpt l = some q → p = q) ∧ Below w.heap.size w w'
theorem pay_none {l : List UInt8} {w w' : World} {e : Ending} (h : payOpt l = none) (he : e = .returned (.tuple #[.string ⟨#[]⟩, .bool false])) (hb : Below w.heap.size w w') : PayPost l w e w' :=
  ⟨[], by rw [he, h]; rfl, fun q hq => by rw [h] at hq; (cases hq), hb⟩
theorem pay_some {l b : List UInt8} {w w' : World} {e : Ending} (h0 : ¬ 2048 < l.length) (h : unescL l = some b) (he : e = .returned (.tuple #[.string ⟨(b.take (b.length - 2)).toArray⟩, .bool (bodyOk b)])) (hb : Below w.heap.size w w') : PayPost l w e w' := by
  have h1 := payOpt_some h0 h
  refine ⟨b.take (b.length - 2), ?_, fun q hq => ?_, hb⟩
  · rw [he, h1]
    cases bodyOk b <;> rfl
  · rw [h1] at hq
    split at hq
    · exact Option.some.inj hq
    · cases hq
end Go.Proofs.YtmlfkhpmgjcliaaDoor
/- The stretches of a stream, as plain functions on lists of bytes. -/
namespace Go.Proofs.YtmlfkhpmgjcliaaDoor
/-- what stands between the flags from here on; cur has come since the last one -/
def segs : List UInt8 → List UInt8 → List (List UInt8)
  | _, [] => []
  | cur, c :: l => if c = 126 then cur :: segs [] l else segs (cur ++ [c]) l
/-- the stretches of a stream -/
def strL : List UInt8 → List (List UInt8)
  | [] => []
  | c :: l => if c = 126 then segs [] l else strL l
theorem idx_none : ∀ (l : List UInt8), Lib.indexByte l 126 = -1 → (∀ cur, segs cur l = []) ∧ strL l = [] ∧ ¬ (126 : UInt8) ∈ l
  | [], _ => ⟨fun _ => rfl, rfl, by simp⟩
  | b :: l, h => by
    have hg := Lib.indexByte_ge l 126
    unfold Lib.indexByte at h
    by_cases hb : b = 126
    · subst hb; simp at h
    · have hb' : (b == 126) = false := by simpa using hb
      rw [hb'] at h
      simp only [Bool.false_eq_true, if_false] at h
      by_cases hl : Lib.indexByte l 126 = -1
      · obtain ⟨h1, h2, h3⟩ := idx_none l hl
        refine ⟨fun cur => ?_, ?_, ?_⟩
        · simp [segs, hb, h1]
        · simp [strL, hb, h2]
        · simp only [List.mem_cons, not_or]
          exact ⟨fun e => hb e.symm, h3⟩
      · have : (Lib.indexByte l 126 == -1) = false := by simpa using hl
        rw [this] at h
        simp only [Bool.false_eq_true, if_false] at h
        omega
theorem idx_some : ∀ (l : List UInt8), Lib.indexByte l 126 ≠ -1 → ∃ n : Nat, Lib.indexByte l 126 = (n : Int) ∧ n < l.length ∧ (∀ cur, segs cur l = (cur ++ l.take n) :: segs [] (l.drop (n + 1))) ∧ strL l = segs [] (l.drop (n + 1)) ∧ l = l.take n ++ 126 :: l.drop (n + 1) ∧ ¬ (126 : UInt8) ∈ l.take n
  | [], h => by simp [Lib.indexByte] at h
  | b :: l, h => by
    have hg := Lib.indexByte_ge l 126
    unfold Lib.indexByte at h ⊢
    by_cases hb : b = 126
    · subst hb
      exact ⟨0, by simp, by simp, fun cur => by simp [segs], by simp [strL], by simp, by simp⟩
    · have hb' : (b == 126) = false := by simpa using hb
      rw [hb'] at h ⊢
      simp only [Bool.false_eq_true, if_false] at h ⊢
      by_cases hl : Lib.indexByte l 126 = -1
      · rw [hl] at h; simp at h
      · have : (Lib.indexByte l 126 == -1) = false := by simpa using hl
        rw [this]
        simp only [Bool.false_eq_true, if_false]
        obtain ⟨n, h1, h2, h3, h4, h5, h6⟩ := idx_some l hl
        refine ⟨n + 1, by rw [h1]; simp, by simp; omega, fun cur => ?_, ?_, ?_, ?_⟩
        · simp [segs, hb, h3]
        · simp [strL, hb, h4]
        · simp only [List.take_succ_cons, List.drop_succ_cons, List.cons_append]
          rw [← h5]
        · simp only [List.take_succ_cons, List.mem_cons, not_or]
          exact ⟨fun e => hb e.symm, h6⟩
end Go.Proofs.YtmlfkhpmgjcliaaDoor
