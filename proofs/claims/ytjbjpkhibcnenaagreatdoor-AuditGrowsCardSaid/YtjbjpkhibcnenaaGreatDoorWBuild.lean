/- Texts merged: SShort WDig WInt WBuild -/
import Derived.Test.YtjbjpkhibcnenaaGreatDoorSum
import Derived.Deep.LoopGhost
import Derived.Sort.WalkB12
import Derived.Lib.SlicesMore
import Derived.Lib.OwnBridge
import Derived.Test.YtjbjpkhibcnenaaGreatDoorNDiv
import Derived.Laws.MakeOwn
import Derived.Laws.NewDeep
import Derived.Lib.AppendStr
import Derived.Lib.SplitLaws
import Derived.Lib.UnsafeStr
import Derived.Laws.Externs
import Derived.Shelf.Strings.Builder1
import Derived.Shelf.Small.Strs
import Derived.Shelf.Strings.Search1
import Derived.Shelf.Strings.Replace
import Derived.Test.YtjbjpkhibcnenaaGreatDoorProg
/- digest.Short returns the first sixty bits of the digest, as the plain function shortL says. -/
namespace Go.Proofs.YtjbjpkhibcnenaaGreatDoor
open Go.RowKit
/-- the first k bytes, as one number, the first byte highest -/
def topN (d : List UInt8) : Nat → Nat
  | 0 => 0
  | k + 1 => topN d k * 256 + (d[k]?.getD 0).toNat
theorem topN_lt (d : List UInt8) (k : Nat) : topN d k < 256 ^ k := by
  induction k with
  | zero => simp [topN]
  | succ k ih =>
    have := (d[k]?.getD 0).toNat_lt
    simp only [topN, Nat.pow_succ]
    omega
def shortL (s : List UInt8) : Nat := topN (sumB s) 8 / 16
theorem topN_small (d : List UInt8) (k : Nat) (hk : k < 8) : topN d k < 72057594037927936 :=
  Nat.lt_of_lt_of_le (topN_lt d k) (Nat.le_trans (Nat.pow_le_pow_right (by decide) (show k ≤ 7 by omega)) (by decide))
theorem short_or (n : Nat) (b : UInt8) (hn : n < 72057594037927936) : bits .or .u64 ((n : Int) * 256) (b.toNat : Int) = ((n * 256 + b.toNat : Nat) : Int) := by
  have hb := b.toNat_lt
  have h := bits_or_u64_nat (n * 256) b.toNat (by omega) (by omega)
  have e : n * 256 ||| b.toNat = n * 256 + b.toNat := by
    rw [Nat.mul_comm, show 256 = 2 ^ 8 from rfl, ← Nat.two_pow_add_eq_or_of_lt hb]
  rw [e] at h
  rw [← h]
  congr 1
theorem short_or2 (n : Nat) (b : UInt8) (hn : n < 72057594037927936) : bits .or .u64 (IntKind.u64.wrap ((n : Int) * 256)) (IntKind.u64.wrap (b.toNat : Int)) = ((n * 256 + b.toNat : Nat) : Int) := by
  have hb := b.toNat_lt
  rw [IntWalk.u64_in _ (by omega), IntWalk.u64_in _ (by omega)]
  exact short_or n b hn
theorem short_end (n : Nat) (hn : n < 256 ^ 8) : wrap64 (IntKind.u64.wrap ((n : Int) / 16)) = ((n / 16 : Nat) : Int) := by
  have h : (256 : Nat) ^ 8 = 18446744073709551616 := by decide
  rw [h] at hn
  rw [IntWalk.u64_in _ (by omega), IntWalk.wrap64_in _ (by omega)]
  omega
set_option maxRecDepth 100000 in
set_option maxHeartbeats 1000000 in
theorem short_any (s : ByteArray) (w : World) (hg : Glob w) (hs : s.size ≤ 1000000) :
    Calls Tryz.prog 151 #[.string s] w fun e w' => e = .returned (.int .i64 (shortL s.data.toList : Nat)) ∧ Below w.heap.size w w' := by
  go_enter Tryz.func151, Tryz.ntmps151
  go_wp2_with fail
  refine (sum_any _ _ hg hs).mono ?_
  rintro e w1 ⟨rfl, hb⟩
  have HB := Lib.hid hb
  clear hb hg
  have HS : Hid (shortL s.data.toList = topN (sumB s.data.toList) 8 / 16) := rfl
  have hX : (⟨(sumB s.data.toList).toArray⟩ : ByteArray).size = 32 := sumB_len _
  have HX : Hid ((⟨(sumB s.data.toList).toArray⟩ : ByteArray).data.toList = sumB s.data.toList) := rfl
  generalize (⟨(sumB s.data.toList).toArray⟩ : ByteArray) = X at *
  rw [← HX.out] at HS
  clear HX
  have hX1 : 32 ≤ X.size := by omega
  have hX2 : X.size ≤ 32 := by omega
  clear hX
  go_wp2_with fail
  go_loop [4, 8] (fun n i => ∃ k : Nat, k ≤ 8 ∧ i = .int .i64 k ∧ n = .int .u64 (topN X.data.toList k : Nat)) (fun _ i => 8 - (intOf i).toNat)
  case atStart => exact ⟨0, by omega, rfl, rfl⟩
  case round =>
    obtain ⟨k, hk, rfl, rfl⟩ := hrel
    by_cases hlt : k < 8
    · have hlt2 : k < X.size := by omega
      have hT : topN X.data.toList (k + 1) = topN X.data.toList k * 256 + X[k].toNat := by
        simp only [topN]
        congr 2
        rw [List.getElem?_eq_getElem (by simpa using hlt2)]
        rfl
      have hn := topN_small X.data.toList k hlt
      have HT := Lib.hid hT
      have Hn := Lib.hid (short_or2 (topN X.data.toList k) X[k] hn)
      clear hT hn
      generalize topN X.data.toList k = n at *
      go_wp2_with fail
      go_round
      case rel => exact ⟨k + 1, by omega, by go_num, by rw [HT.out, Hn.out]⟩
      case measure => simp [intOf]; omega
    · obtain rfl : k = 8 := by omega
      clear hlt hk
      have h8 := topN_lt X.data.toList 8
      have H8 := Lib.hid h8
      clear h8
      generalize topN X.data.toList 8 = n at *
      go_wp2_with fail
      have HE := Lib.hid (short_end n H8.out)
      go_ret
      exact ⟨by rw [HS.out]; exact congrArg (fun z => Ending.returned (Value.int .i64 z)) HE.out, HB.out⟩
end Go.Proofs.YtjbjpkhibcnenaaGreatDoor
/- Package wire: slices.Reverse on bytes, digits, Int and Num. -/
namespace Go.Proofs.YtjbjpkhibcnenaaGreatDoor
open Go.RowKit Go.Sort
def encU8 (b : UInt8) : Value := .int .u8 (b.toNat : Int)
theorem bytesV_enc (l : List UInt8) : bytesV l = l.map encU8 := rfl
set_option maxHeartbeats 1600000 in
set_option maxRecDepth 1000000 in
theorem reverse_arr (blk off cap : Nat) (d : Array UInt8) (w : World) (hH : Holds encU8 w blk off d) (hsz : d.size ≤ 9223372036854775807) :
    Calls Tryz.prog 165 #[.slice (some ⟨blk, off, none⟩) d.size cap] w fun e w' => e = .returned (.tuple #[]) ∧ ∃ n, w' = putRow encU8 (Sort.ahead w n) blk off d.reverse := by
  go_enter Tryz.func165, Tryz.ntmps165
  go_wp2_with fail
  go_loopg [2, 3] d.size (fun k s2 s3 wr => ∃ (i jn : Nat) (jz : Int) (dk : Array UInt8) (n : Nat), s2 = .int .i64 i ∧ s3 = .int .i64 jz ∧ ((i : Int) < jz → jz = jn ∧ jn < d.size) ∧ (¬ (i : Int) < jz → ¬ i < jn) ∧ jn - i ≤ k ∧
    dk.size = d.size ∧ wr = putRow encU8 (Sort.ahead w n) blk off dk ∧ reverseLoop i jn dk = reverseLoop 0 (d.size - 1) d)
  case atStart => exact ⟨0, d.size - 1, (d.size : Int) - 1, d, 0, rfl, rfl, fun h => ⟨by omega, by omega⟩, fun h => by omega, by omega, rfl, (putRow_self encU8 w blk off d hH).symm, rfl⟩
  case round =>
    obtain ⟨i, jn, jz, dk, n, rfl, rfl, h1, h2, hk, hds, hwr, heq⟩ := hrel
    by_cases hlt : (i : Int) < jz
    · obtain ⟨rfl, hjn⟩ := h1 hlt
      have hij : i < jn := by omega
      have hHk : Holds encU8 wr blk off dk := by rw [hwr]; exact holds_putRow encU8 _ blk off d dk (holds_ahead encU8 w n blk off d hH) hds
      obtain ⟨ci, fi⟩ := hHk i (by omega)
      obtain ⟨cj, fj⟩ := hHk jn (by omega)
      have A : Aside (wr = putRow encU8 (Sort.ahead w n) blk off dk) := hwr
      have hi1 : i < d.size := by omega
      have hj1 : jn < d.size := by omega
      unfold encU8 at ci cj
      clear hwr hHk hH h1 h2
      go_wp2_with fail
      go_region
      go_wp2
      go_roundg (jn - 1 - (i + 1))
      case measure => omega
      case rel =>
        rw [reverseLoop, if_pos hij] at heq
        exact ⟨i + 1, jn - 1, (jn : Int) - 1, swp dk i jn, n + 1, by simp, rfl, fun h => ⟨by omega, by omega⟩, fun h => by omega, Nat.le_refl _, by rw [size_swp]; exact hds,
          swap_world encU8 (by omega) (by omega) A.out (by first | rfl | simp [encU8, getElem!_pos, show jn < dk.size by omega]) (by first | rfl | simp [encU8, getElem!_pos, show i < dk.size by omega]), heq⟩
    · have hnot := h2 hlt
      go_wp2
      go_end0
      refine ⟨rfl, n, ?_⟩
      rw [reverseLoop, if_neg hnot] at heq
      rw [← Lib.reverseLoop_reverse, ← heq]
theorem reverse_any (base n : Nat) (v : Value) (l : List UInt8) (w w0 : World) (B : Nat) (h : w.ownsRow base 5 1 v n (bytesV l)) (hn : 0 < n) (hb : Below B w0 w) (hB : B ≤ base) :
    Calls Tryz.prog 165 #[v] w fun e w' => e = .returned (.tuple #[]) ∧ w'.ownsRow base 5 1 v n (bytesV l.reverse) ∧ Below B w0 w' := by
  have hv : v ≠ .slice none 0 0 := by
    rintro rfl
    rcases h.2 with ⟨_, h0⟩ | ⟨g, cap, cur, h1, _⟩
    · omega
    · cases h1
  rw [bytesV_enc] at h
  obtain ⟨g, cap, rfl, hbg, hlt, hnc, hcm, hl, hH⟩ := Lib.holds_of_ownsRow h hv
  have hs : l.toArray.size = n := by simpa using hl
  have hm : cap ≤ 9223372036854775807 := by unfold maxLen at hcm; exact hcm
  have hc := reverse_arr g 0 cap l.toArray w hH (by omega)
  rw [hs] at hc
  refine hc.mono ?_
  rintro e w' ⟨rfl, q, rfl⟩
  refine ⟨rfl, ?_, Lib.below_putRow hb (by omega)⟩
  have := Lib.ownsRow_putRow (q := q) (k := n) (ys := l.reverse) h (by simpa using hl) (Nat.le_refl _)
  rw [List.take_of_length_le (by simp; omega)] at this
  rw [bytesV_enc]
  simpa using this
end Go.Proofs.YtjbjpkhibcnenaaGreatDoor
/- Package wire: digits, Int and Num. -/
namespace Go.Proofs.YtjbjpkhibcnenaaGreatDoor
open Go.RowKit
def flipL (l : List UInt8) : List UInt8 := l.map fun b => 255 - b
def sameL (l : List UInt8) : List UInt8 := l
theorem flipL_append (a b : List UInt8) : flipL (a ++ b) = flipL a ++ flipL b := List.map_append
theorem sameL_append (a b : List UInt8) : sameL (a ++ b) = sameL a ++ sameL b := rfl
theorem xor_same (k : Nat) (h : k < 256) : bits BinOp.xor IntKind.u8 (k : Int) 0 = (((UInt8.ofNat k).toNat : Nat) : Int) := by
  rw [ofNat_toNat k h]
  show IntKind.u8.wrap ((BitVec.ofInt 8 (k : Int) ^^^ BitVec.ofInt 8 0).toNat : Int) = _
  have : BitVec.ofInt 8 0 = 0#8 := rfl
  rw [this, BitVec.xor_zero, BitVec.ofInt_natCast, BitVec.toNat_ofNat, Nat.mod_eq_of_lt (by omega)]
  exact IntWalk.u8_in _ (by omega)
theorem xor_flip (k : Nat) (h : k < 256) : bits BinOp.xor IntKind.u8 (k : Int) 255 = (((255 - UInt8.ofNat k).toNat : Nat) : Int) := by
  have H : ∀ k : Fin 256, bits BinOp.xor IntKind.u8 ((k : Nat) : Int) 255 = (((255 - UInt8.ofNat (k : Nat)).toNat : Nat) : Int) := by decide +kernel
  exact H ⟨k, h⟩

set_option maxRecDepth 100000 in
set_option maxHeartbeats 1000000 in
theorem digits_pos (m : Nat) (w : World) (hm : m < 18446744073709551616) :
    Calls Tryz.prog 155 #[.int .u64 m, .int .i64 128, .int .i64 1, .int .u8 0] w fun e w' => ∃ v, e = .returned v ∧ w'.ownsRow w.heap.size 5 1 v ((lebL m).length + 1) (bytesV (UInt8.ofNat (128 + (lebL m).length) :: (sameL (lebL m)).reverse)) ∧ Below w.heap.size w w' := by
  obtain ⟨i0, hi, hz0, hz1, hz2⟩ := info_parts infoB
  have HM := Lib.hid hm
  clear hm
  go_enter Tryz.func155, Tryz.ntmps155
  go_upto_region 2 with (at_make; refine wpList_make_own _ rfl _ _ 113 rfl w.heap.size 5 i0 (.int .u8 0) 1 undBs hi hz0 hz1 .i64 .i64 9 9 rfl rfl rfl (by rw [hz2]; decide) (by decide) (Nat.le_refl _) ?_; intro w3 hown hgr)
  have HB0 : Hid (Below w.heap.size w w3) := Lib.hid ((Below.refl w.heap.size w).grown hgr (Nat.le_refl _) (fun k e => by cases e))
  have HO0 : Hid (w3.ownsRow w.heap.size 5 1 (.slice (some ⟨w.heap.size, 0, none⟩) 0 9) 0 (bytesV (sameL []))) := Lib.hid hown
  clear hown hgr
  go_loopw [0, 9] (fun iv v wr => ∃ (q : Nat) (done : List UInt8), lebL m = done ++ lebL q ∧ q < 18446744073709551616 ∧ iv = .int .u64 q ∧ wr.ownsRow w.heap.size 5 1 v done.length (bytesV (sameL done)) ∧ Below w.heap.size w wr) (fun iv _ _ => (intOf iv).toNat)
  case atStart => exact ⟨m, [], rfl, HM.out, rfl, HO0.out, HB0.out⟩
  case round =>
    obtain ⟨q, done, hq, hq64, rfl, hown, hB⟩ := hrel
    clear HO0 HB0
    have HQ := Lib.hid hq
    have HO := Lib.hid hown
    have HB := Lib.hid hB
    have hsz := hB.size
    clear hq hown hB
    by_cases h0 : 0 < q
    · obtain ⟨x, hx⟩ : ∃ x : UInt8, x = UInt8.ofNat (q % 256) := ⟨_, rfl⟩
      have hxx : bits BinOp.xor IntKind.u8 ((q : Int) % 256) 0 = (x.toNat : Int) := by
        have := xor_same (q % 256) (by omega)
        rw [hx, ← this, Int.natCast_emod]
        rfl
      have HX : Hid (lebL m = (done ++ [UInt8.ofNat (q % 256)]) ++ lebL (q / 256)) := by
        refine Lib.hid ?_
        rw [HQ.out, leb_pos (by omega : q ≠ 0)]
        simp
      have HL : Hid (done.length < 8) := by
        refine Lib.hid ?_
        have h1 := leb_len8 HM.out
        rw [HX.out] at h1
        simp at h1
        omega
      have HE : Hid (bytesV (sameL done) ++ [Value.int .u8 (x.toNat : Int)] = bytesV (sameL (done ++ [UInt8.ofNat (q % 256)]))) := by
        refine Lib.hid ?_
        rw [sameL_append, bytesV_append, hx]
        rfl
      clear hx
      have hdiv : q / 256 < q := by omega
      have h0' : decide ((q : Int) > 0) = true := by simp; omega
      go_wp2_with (at_builtin; refine Hid.out ?_)
      refine Lib.hid ?_
      refine wpList_append_own _ rfl _ _ 113 rfl w.heap.size 5 i0 (.int .u8 0) 1 1 undBs hi hz0 hz1 hz2 rfl (by decide) _ _ _ rfl (HO.out.alloc _) ⟨wr.heap.size, 0, none⟩ 1 1 [.int .u8 (x.toNat : Int)] rfl rfl (cells_new _ _ _) (by intro u hu; simp at hu; subst hu; rfl) (by have := HL.out; unfold maxLen; omega) (by have := HL.out; omega) (by simp; omega) ?_
      intro v' w2 hown' hgrow _
      have HO2 : Hid (w2.ownsRow w.heap.size 5 1 v' (done ++ [UInt8.ofNat (q % 256)]).length (bytesV (sameL (done ++ [UInt8.ofNat (q % 256)])))) := by
        refine Lib.hid ?_
        rw [← HE.out, List.length_append]
        exact hown'
      have HB2 : Hid (Below w.heap.size w w2) := Lib.hid ((HB.out.alloc (by omega) _).grown hgrow (by simp; omega) (fun k hk => HO.out.block_ge hk))
      clear hown' hgrow
      go_wp2_with fail
      go_roundw
      case rel => exact ⟨q / 256, done ++ [UInt8.ofNat (q % 256)], HX.out, by omega, by simp, HO2.out, HB2.out⟩
      case measure => simp [intOf]; omega
    · obtain rfl : q = 0 := by omega
      have HD : Hid (done = lebL m) := Lib.hid (by rw [HQ.out, leb_zero, List.append_nil])
      clear h0 hq64
      have hl8 : done.length ≤ 8 := by rw [HD.out]; exact leb_len8 HM.out
      obtain ⟨x, hx⟩ : ∃ x : UInt8, x = UInt8.ofNat (128 + done.length) := ⟨_, rfl⟩
      have hxn : x.toNat = 128 + done.length := by rw [hx, ofNat_toNat _ (by omega)]
      have HX := Lib.hid hx
      clear hx
      obtain ⟨ad, cap, rfl⟩ : ∃ ad cap, u9 = .slice ad done.length cap := by
        rcases HO.out.2 with ⟨h1, h2⟩ | ⟨g, cap, cur, h1, _⟩
        · exact ⟨none, 0, by rw [h1, h2]⟩
        · exact ⟨_, _, h1⟩
      go_wp2_with (at_builtin; refine Hid.out ?_)
      refine Lib.hid ?_
      have HV : Hid (bytesV (sameL done) ++ [Value.int .u8 (128 + (done.length : Int))] = bytesV (sameL done ++ [x])) := by
        refine Lib.hid ?_
        rw [bytesV_append]
        have : ((x.toNat : Nat) : Int) = (128 + (done.length : Int)) := by omega
        rw [← this]
        rfl
      refine wpList_append_own _ rfl _ _ 113 rfl w.heap.size 5 i0 (.int .u8 0) 1 1 undBs hi hz0 hz1 hz2 rfl (by decide) _ _ _ rfl (HO.out.alloc _) ⟨wr.heap.size, 0, none⟩ 1 1 [.int .u8 (128 + (done.length : Int))] rfl rfl (cells_new _ _ _) (by intro u hu; simp at hu; subst hu; rfl) (by unfold maxLen; omega) (by omega) (by simp; omega) ?_
      intro v' w2 hown' hgrow _
      have HO2 : Hid (w2.ownsRow w.heap.size 5 1 v' (done.length + 1) (bytesV (sameL done ++ [x]))) := by
        refine Lib.hid ?_
        rw [← HV.out]
        exact hown'
      have HB2 : Hid (Below w.heap.size w w2) := Lib.hid ((HB.out.alloc (by omega) _).grown hgrow (by simp; omega) (fun k hk => HO.out.block_ge hk))
      clear hown' hgrow
      go_wp2_with fail
      refine (reverse_any w.heap.size _ _ _ _ w w.heap.size HO2.out (by omega) HB2.out (Nat.le_refl _)).mono ?_
      rintro e w3 ⟨rfl, hown3, hb3⟩
      have HO3 : Hid (w3.ownsRow w.heap.size 5 1 v' ((lebL m).length + 1) (bytesV (UInt8.ofNat (128 + (lebL m).length) :: (sameL (lebL m)).reverse))) := by
        refine Lib.hid ?_
        rw [← HD.out, ← HX.out]
        simpa using hown3
      have HB3 := Lib.hid hb3
      clear hown3 hb3
      go_wp2_with fail
      go_ret
      exact ⟨_, rfl, HO3.out, HB3.out⟩

set_option maxRecDepth 100000 in
set_option maxHeartbeats 1000000 in
theorem digits_neg (m : Nat) (w : World) (hm : m < 18446744073709551616) :
    Calls Tryz.prog 155 #[.int .u64 m, .int .i64 127, .int .i64 (-1), .int .u8 255] w fun e w' => ∃ v, e = .returned v ∧ w'.ownsRow w.heap.size 5 1 v ((lebL m).length + 1) (bytesV (UInt8.ofNat (127 - (lebL m).length) :: (flipL (lebL m)).reverse)) ∧ Below w.heap.size w w' := by
  obtain ⟨i0, hi, hz0, hz1, hz2⟩ := info_parts infoB
  have HM := Lib.hid hm
  clear hm
  go_enter Tryz.func155, Tryz.ntmps155
  go_upto_region 2 with (at_make; refine wpList_make_own _ rfl _ _ 113 rfl w.heap.size 5 i0 (.int .u8 0) 1 undBs hi hz0 hz1 .i64 .i64 9 9 rfl rfl rfl (by rw [hz2]; decide) (by decide) (Nat.le_refl _) ?_; intro w3 hown hgr)
  have HB0 : Hid (Below w.heap.size w w3) := Lib.hid ((Below.refl w.heap.size w).grown hgr (Nat.le_refl _) (fun k e => by cases e))
  have HO0 : Hid (w3.ownsRow w.heap.size 5 1 (.slice (some ⟨w.heap.size, 0, none⟩) 0 9) 0 (bytesV (flipL []))) := Lib.hid hown
  clear hown hgr
  go_loopw [0, 9] (fun iv v wr => ∃ (q : Nat) (done : List UInt8), lebL m = done ++ lebL q ∧ q < 18446744073709551616 ∧ iv = .int .u64 q ∧ wr.ownsRow w.heap.size 5 1 v done.length (bytesV (flipL done)) ∧ Below w.heap.size w wr) (fun iv _ _ => (intOf iv).toNat)
  case atStart => exact ⟨m, [], rfl, HM.out, rfl, HO0.out, HB0.out⟩
  case round =>
    obtain ⟨q, done, hq, hq64, rfl, hown, hB⟩ := hrel
    clear HO0 HB0
    have HQ := Lib.hid hq
    have HO := Lib.hid hown
    have HB := Lib.hid hB
    have hsz := hB.size
    clear hq hown hB
    by_cases h0 : 0 < q
    · obtain ⟨x, hx⟩ : ∃ x : UInt8, x = 255 - UInt8.ofNat (q % 256) := ⟨_, rfl⟩
      have hxx : bits BinOp.xor IntKind.u8 ((q : Int) % 256) 255 = (x.toNat : Int) := by
        have := xor_flip (q % 256) (by omega)
        rw [hx, ← this, Int.natCast_emod]
        rfl
      have HX : Hid (lebL m = (done ++ [UInt8.ofNat (q % 256)]) ++ lebL (q / 256)) := by
        refine Lib.hid ?_
        rw [HQ.out, leb_pos (by omega : q ≠ 0)]
        simp
      have HL : Hid (done.length < 8) := by
        refine Lib.hid ?_
        have h1 := leb_len8 HM.out
        rw [HX.out] at h1
        simp at h1
        omega
      have HE : Hid (bytesV (flipL done) ++ [Value.int .u8 (x.toNat : Int)] = bytesV (flipL (done ++ [UInt8.ofNat (q % 256)]))) := by
        refine Lib.hid ?_
        rw [flipL_append, bytesV_append, hx]
        rfl
      clear hx
      have hdiv : q / 256 < q := by omega
      have h0' : decide ((q : Int) > 0) = true := by simp; omega
      go_wp2_with (at_builtin; refine Hid.out ?_)
      refine Lib.hid ?_
      refine wpList_append_own _ rfl _ _ 113 rfl w.heap.size 5 i0 (.int .u8 0) 1 1 undBs hi hz0 hz1 hz2 rfl (by decide) _ _ _ rfl (HO.out.alloc _) ⟨wr.heap.size, 0, none⟩ 1 1 [.int .u8 (x.toNat : Int)] rfl rfl (cells_new _ _ _) (by intro u hu; simp at hu; subst hu; rfl) (by have := HL.out; unfold maxLen; omega) (by have := HL.out; omega) (by simp; omega) ?_
      intro v' w2 hown' hgrow _
      have HO2 : Hid (w2.ownsRow w.heap.size 5 1 v' (done ++ [UInt8.ofNat (q % 256)]).length (bytesV (flipL (done ++ [UInt8.ofNat (q % 256)])))) := by
        refine Lib.hid ?_
        rw [← HE.out, List.length_append]
        exact hown'
      have HB2 : Hid (Below w.heap.size w w2) := Lib.hid ((HB.out.alloc (by omega) _).grown hgrow (by simp; omega) (fun k hk => HO.out.block_ge hk))
      clear hown' hgrow
      go_wp2_with fail
      go_roundw
      case rel => exact ⟨q / 256, done ++ [UInt8.ofNat (q % 256)], HX.out, by omega, by simp, HO2.out, HB2.out⟩
      case measure => simp [intOf]; omega
    · obtain rfl : q = 0 := by omega
      have HD : Hid (done = lebL m) := Lib.hid (by rw [HQ.out, leb_zero, List.append_nil])
      clear h0 hq64
      have hl8 : done.length ≤ 8 := by rw [HD.out]; exact leb_len8 HM.out
      obtain ⟨x, hx⟩ : ∃ x : UInt8, x = UInt8.ofNat (127 - done.length) := ⟨_, rfl⟩
      have hxn : x.toNat = 127 - done.length := by rw [hx, ofNat_toNat _ (by omega)]
      have HX := Lib.hid hx
      clear hx
      obtain ⟨ad, cap, rfl⟩ : ∃ ad cap, u9 = .slice ad done.length cap := by
        rcases HO.out.2 with ⟨h1, h2⟩ | ⟨g, cap, cur, h1, _⟩
        · exact ⟨none, 0, by rw [h1, h2]⟩
        · exact ⟨_, _, h1⟩
      go_wp2_with (at_builtin; refine Hid.out ?_)
      refine Lib.hid ?_
      have HV : Hid (bytesV (flipL done) ++ [Value.int .u8 (127 + -(done.length : Int))] = bytesV (flipL done ++ [x])) := by
        refine Lib.hid ?_
        rw [bytesV_append]
        have : ((x.toNat : Nat) : Int) = (127 + -(done.length : Int)) := by omega
        rw [← this]
        rfl
      refine wpList_append_own _ rfl _ _ 113 rfl w.heap.size 5 i0 (.int .u8 0) 1 1 undBs hi hz0 hz1 hz2 rfl (by decide) _ _ _ rfl (HO.out.alloc _) ⟨wr.heap.size, 0, none⟩ 1 1 [.int .u8 (127 + -(done.length : Int))] rfl rfl (cells_new _ _ _) (by intro u hu; simp at hu; subst hu; rfl) (by unfold maxLen; omega) (by omega) (by simp; omega) ?_
      intro v' w2 hown' hgrow _
      have HO2 : Hid (w2.ownsRow w.heap.size 5 1 v' (done.length + 1) (bytesV (flipL done ++ [x]))) := by
        refine Lib.hid ?_
        rw [← HV.out]
        exact hown'
      have HB2 : Hid (Below w.heap.size w w2) := Lib.hid ((HB.out.alloc (by omega) _).grown hgrow (by simp; omega) (fun k hk => HO.out.block_ge hk))
      clear hown' hgrow
      go_wp2_with fail
      refine (reverse_any w.heap.size _ _ _ _ w w.heap.size HO2.out (by omega) HB2.out (Nat.le_refl _)).mono ?_
      rintro e w3 ⟨rfl, hown3, hb3⟩
      have HO3 : Hid (w3.ownsRow w.heap.size 5 1 v' ((lebL m).length + 1) (bytesV (UInt8.ofNat (127 - (lebL m).length) :: (flipL (lebL m)).reverse))) := by
        refine Lib.hid ?_
        rw [← HD.out, ← HX.out]
        simpa using hown3
      have HB3 := Lib.hid hb3
      clear hown3 hb3
      go_wp2_with fail
      go_ret
      exact ⟨_, rfl, HO3.out, HB3.out⟩

set_option maxRecDepth 100000 in
set_option maxHeartbeats 1000000 in
theorem int_any (n : Int) (w : World) (hn : I64 n) :
    Calls Tryz.prog 140 #[.int .i64 n] w fun e w' => e = .returned (.string ⟨(intL n).toArray⟩) ∧ Below w.heap.size w w' := by
  unfold I64 at hn
  by_cases h0 : 0 ≤ n
  · obtain ⟨m, rfl⟩ : ∃ m : Nat, n = (m : Int) := ⟨n.toNat, by omega⟩
    have HI : Hid (intL (m : Int) = UInt8.ofNat (128 + (lebL m).length) :: (sameL (lebL m)).reverse) := by
      refine Lib.hid ?_
      unfold intL
      rw [if_pos (by omega), Int.toNat_natCast]
      rfl
    go_enter Tryz.func140, Tryz.ntmps140
    go_wp2_with fail
    refine (digits_pos m _ (by omega)).mono ?_
    rintro e w1 ⟨v, rfl, hown, hb⟩
    rw [← HI.out] at hown
    have HO := Lib.hid hown
    have HB := Lib.hid hb
    clear hown hb
    go_wp2_with (refine wpList_string_own rfl 113 9 5 _ rfl undBs undB undS _ rfl w.heap.size _ (intL (m : Int)) HO.out ?_)
    go_wp2_with fail
    go_ret
    exact ⟨rfl, HB.out⟩
  · obtain ⟨m, rfl⟩ : ∃ m : Nat, n = -(m : Int) - 1 := ⟨(-n - 1).toNat, by omega⟩
    have HI : Hid (intL (-(m : Int) - 1) = UInt8.ofNat (127 - (lebL m).length) :: (flipL (lebL m)).reverse) := by
      refine Lib.hid ?_
      unfold intL
      have : (-(-(m : Int) - 1 + 1)).toNat = m := by omega
      rw [if_neg (by omega), this]
      rfl
    have e1 : -(m : Int) - 1 + 1 = -(m : Int) := by omega
    have e2 : IntKind.u64.wrap (m : Int) = (m : Int) := IntWalk.u64_in _ (by omega)
    go_enter Tryz.func140, Tryz.ntmps140
    go_wp2_with fail
    refine (digits_neg m _ (by omega)).mono ?_
    rintro e w1 ⟨v, rfl, hown, hb⟩
    rw [← HI.out] at hown
    have HO := Lib.hid hown
    have HB := Lib.hid hb
    clear hown hb
    go_wp2_with (refine wpList_string_own rfl 113 9 5 _ rfl undBs undB undS _ rfl w.heap.size _ (intL (-(m : Int) - 1)) HO.out ?_)
    go_wp2_with fail
    go_ret
    exact ⟨rfl, HB.out⟩
set_option maxRecDepth 100000 in
set_option maxHeartbeats 1000000 in
theorem num_any (n : Int) (w : World) (hn : I64 n) :
    Calls Tryz.prog 137 #[.int .i64 n] w fun e w' => e = .returned (.string ⟨(numL n).toArray⟩) ∧ Below w.heap.size w w' := by
  have HN := Lib.hid hn
  unfold I64 at hn
  by_cases h0 : n < 0
  · have HI : Hid (numL n = []) := Lib.hid (by unfold numL; rw [if_pos h0])
    rw [HI.out]
    go_enter Tryz.func137, Tryz.ntmps137
    go_wp2_with fail
    go_ret
    exact ⟨rfl, Below.refl _ _⟩
  · have HI : Hid (numL n = intL n) := Lib.hid (by unfold numL; rw [if_neg h0])
    rw [HI.out]
    go_enter Tryz.func137, Tryz.ntmps137
    go_wp2_with fail
    refine (int_any n _ HN.out).mono ?_
    rintro e w1 ⟨rfl, hb⟩
    have HB := Lib.hid hb
    clear hb
    go_wp2_with fail
    go_ret
    exact ⟨rfl, HB.out⟩
end Go.Proofs.YtjbjpkhibcnenaaGreatDoor
/- strings.Builder: copyCheck, WriteByte and WriteString on a builder that the call itself has made; wire.Text. -/
namespace Go.Proofs.YtjbjpkhibcnenaaGreatDoor
open Go.RowKit
theorem index_cons_zero (s : List UInt8) : Lib.index (0 :: s) [0] = 0 := by simp [Lib.index]
theorem index_cons_ne {c : UInt8} (h : c ≠ 0) (s : List UInt8) : Lib.index (c :: s) [0] = if Lib.index s [0] == -1 then -1 else Lib.index s [0] + 1 := by
  have h' : ¬ (0 : UInt8) = c := fun e => h e.symm
  simp [Lib.index, h']
theorem replaceK_esc (s : List UInt8) : Lib.replaceK [0] [0, 255] (s.count 0) s = escTs s := by
  induction s with
  | nil => rfl
  | cons c s ih =>
    by_cases hc : c = 0
    · subst hc
      have e : (0 :: s).count (0 : UInt8) = s.count 0 + 1 := by simp
      rw [e, Lib.replaceK_hit _ _ _ _ 0 (index_cons_zero s)]
      show [0, 255] ++ Lib.replaceK [0] [0, 255] (s.count 0) s = escT 0 ++ escTs s
      rw [ih]
      rfl
    · have e : (c :: s).count (0 : UInt8) = s.count 0 := List.count_cons_of_ne hc
      have e2 : escTs (c :: s) = c :: escTs s := by
        show escT c ++ escTs s = _
        rw [escT, if_neg hc]
        rfl
      rw [e, e2, ← ih]
      cases hk : s.count (0 : UInt8) with
      | zero => rfl
      | succ k =>
        obtain ⟨i, hi⟩ := Lib.index_of_count (s := s) (old := [0]) (by rw [Lib.count_one, hk]; omega)
        rw [Lib.replaceK_hit _ _ _ _ i hi]
        have hi2 : Lib.index (c :: s) [0] = ((i + 1 : Nat) : Int) := by
          rw [index_cons_ne hc, hi, if_neg (by rw [beq_iff_eq]; omega)]
          omega
        rw [Lib.replaceK_hit _ _ _ _ (i + 1) hi2]
        rfl
theorem replaceAll_esc (s : List UInt8) : Lib.replaceAll s [0] [0, 255] = escTs s := by
  have hn : Lib.replaceNum s [0] (-1) = s.count 0 := by
    unfold Lib.replaceNum
    rw [if_pos (Or.inl (by decide)), Lib.count_one]
  unfold Lib.replaceAll Lib.replace
  rw [hn, if_neg (by decide), replaceK_esc]
/-- the library's variable MaxLen holds an int -/
def MLen (w : World) : Prop := ∃ m : Int, w.cell? ⟨4, 0, none⟩ = some (.int .i64 m)
theorem mlen_lt {w : World} (h : MLen w) : 4 < w.heap.size := by
  obtain ⟨m, hm⟩ := h
  rcases Nat.lt_or_ge 4 w.heap.size with h' | h'
  · exact h'
  · simp [World.cell?, Array.getElem?_eq_none h'] at hm
theorem MLen.below {B : Nat} {w w' : World} (h : MLen w) (hb : Below B w w') (hB : 4 < B) : MLen w' := by
  obtain ⟨m, hm⟩ := h
  exact ⟨m, (hb.cell (p := ⟨4, 0, none⟩) hB).trans hm⟩
theorem MLen.up {w w' : World} (h : MLen w) (hb : Below w.heap.size w w') : MLen w' := h.below hb (mlen_lt h)
theorem countB_zero_le (s : ByteArray) : Lib.countB s ⟨#[0]⟩ ≤ s.size := Lib.countB_le ⟨#[0]⟩ (by decide) s.size s (Nat.le_refl _)
set_option maxRecDepth 100000 in
set_option maxHeartbeats 1000000 in
theorem text_any (s : ByteArray) (w : World) (hs : s.size ≤ 1000000) (hm : MLen w) :
    Calls Tryz.prog 119 #[.string s] w fun e w' => e = .returned (.string ⟨(textL s.data.toList).toArray⟩) ∧ Below w.heap.size w w' := by
  obtain ⟨m, hm⟩ := hm
  have HM := Lib.hid hm
  clear hm
  have HT : Hid (Lib.replaceAll s.data.toList [0] [0, 255] = escTs s.data.toList) := Lib.hid (replaceAll_esc _)
  have HE : Hid ((⟨(escTs s.data.toList).toArray⟩ : ByteArray) ++ ⟨#[0, 1]⟩ = ⟨(textL s.data.toList).toArray⟩) := by
    refine Lib.hid ?_
    apply ByteArray.ext
    apply Array.ext'
    simp [textL]
  have hl : (escTs s.data.toList).length ≤ 2000000 := by
    have h1 := escTs_len s.data.toList
    have h2 : s.data.toList.length = s.size := by simp
    omega
  have hcz := countB_zero_le s
  go_enter Tryz.func119, Tryz.ntmps119
  go_wp2_with fail
  refine (Tryz.strings_ReplaceAll s ⟨#[0]⟩ ⟨#[0, 255]⟩ m _ (by omega) HM.out (by decide) (by rw [show (ByteArray.mk #[0, 255]).size = 2 from rfl]; omega)).mono ?_
  rintro e w1 ⟨rfl, hb⟩
  have HB := Lib.hid hb
  clear hb
  simp only [HT.out]
  go_wp2_with fail
  go_ret
  exact ⟨congrArg (fun x => Ending.returned (Value.string x)) HE.out, HB.out⟩
end Go.Proofs.YtjbjpkhibcnenaaGreatDoor
