/- Texts merged: WDig WInt WBuild WJoin WLead WRead SHash SChal -/
import Derived.Deep.LoopGhost
import Derived.Sort.WalkB12
import Derived.Lib.SlicesMore
import Derived.Lib.OwnBridge
import Derived.Test.YtjbjpkhibcnenaaGreatDoorWShelf
import Derived.Test.YtjbjpkhibcnenaaGreatDoorNDiv
import Derived.Laws.MakeOwn
import Derived.Laws.NewDeep
import Derived.Lib.AppendStr
import Derived.Lib.SplitLaws
import Derived.Lib.UnsafeStr
import Derived.Laws.Externs
import Derived.OneCell
import Derived.Outline
import Derived.Test.YtjbjpkhibcnenaaGreatDoorMix
/- Package wire: slices.Reverse on bytes, digits, Int and Num. -/
namespace Go.Proofs.YtjbjpkhibcnenaaGreatDoor
set_option maxHeartbeats 1600000
open Go.RowKit Go.Sort
def encU8 (b : UInt8) : Value := .int .u8 (b.toNat : Int)
theorem bytesV_enc (l : List UInt8) : bytesV l = l.map encU8 := rfl
set_option maxRecDepth 1000000 in
theorem reverse_arr (blk off cap : Nat) (d : Array UInt8) (w : World) (hH : Holds encU8 w blk off d) (hsz : d.size ≤ 9223372036854775807) :
 Calls Tryz.prog 165 #[.slice (some ⟨blk, off, none⟩) d.size cap] w fun e w' => e = .returned (.tuple #[]) ∧ ∃ n, w' = putRow encU8 (Sort.ahead w n) blk off d.reverse := by
 go_enter Tryz.func165, Tryz.ntmps165
 go_wp2_with fail
 go_loopg [2, 3] d.size (fun k s2 s3 wr => ∃ (i jn : Nat) (jz : Int) (dk : Array UInt8) (n : Nat), s2 = .int .i64 i ∧ s3 = .int .i64 jz ∧ ((i : Int) < jz → jz = jn ∧ jn < d.size) ∧ (¬ (i : Int) < jz → ¬ i < jn) ∧ jn - i ≤ k ∧
  dk.size = d.size ∧ wr = putRow encU8 (Sort.ahead w n) blk off dk ∧ reverseLoop i jn dk = reverseLoop 0 (d.size - 1) d)
 case atStart => exact ⟨0, d.size - 1, (d.size : Int) - 1, d, 0, rfl, rfl, fun h => ⟨by omega, by omega⟩, fun h => by omega, by omega, rfl, (putRow_self encU8 w blk off d hH).symm, rfl⟩
 case round =>
  obtain ⟨i, jn, jz, dk, n, rfl, rfl, h1, h2, hk, hds, hwr, heq⟩ := hrel
  by_cases hlt : (i : Int) < jz
  ·
   obtain ⟨rfl, hjn⟩ := h1 hlt
   have hij : i < jn := by omega
   have hHk : Holds encU8 wr blk off dk := by rw [hwr]; exact holds_putRow encU8 _ blk off d dk (holds_ahead encU8 w n blk off d hH) hds
   obtain ⟨ci, fi⟩ := hHk i (by omega)
   obtain ⟨cj, fj⟩ := hHk jn (by omega)
   have A : Aside (wr = putRow encU8 (Sort.ahead w n) blk off dk) := hwr
   have hi1 : i < d.size := by omega
   have hj1 : jn < d.size := by omega
   unfold encU8 at ci cj
   clear hwr hHk hH h1 h2
   go_wp2_with fail
   go_region
   go_wp2
   go_roundg (jn - 1 - (i + 1))
   case measure => omega
   case rel =>
    rw [reverseLoop, if_pos hij] at heq
    exact ⟨i + 1, jn - 1, (jn : Int) - 1, swp dk i jn, n + 1, by simp, rfl, fun h => ⟨by omega, by omega⟩, fun h => by omega, Nat.le_refl _, by rw [size_swp]; exact hds,
     swap_world encU8 (by omega) (by omega) A.out (by first | rfl | simp [encU8, getElem!_pos, show jn < dk.size by omega]) (by first | rfl | simp [encU8, getElem!_pos, show i < dk.size by omega]), heq⟩
  ·
   have hnot := h2 hlt
   go_wp2
   go_end0
   refine ⟨rfl, n, ?_⟩
   rw [reverseLoop, if_neg hnot] at heq
   rw [← Lib.reverseLoop_reverse, ← heq]
theorem reverse_any (base n : Nat) (v : Value) (l : List UInt8) (w w0 : World) (B : Nat) (h : w.ownsRow base 5 1 v n (bytesV l)) (hn : 0 < n) (hb : Below B w0 w) (hB : B ≤ base) :
 Calls Tryz.prog 165 #[v] w fun e w' => e = .returned (.tuple #[]) ∧ w'.ownsRow base 5 1 v n (bytesV l.reverse) ∧ Below B w0 w' := by
 have hv : v ≠ .slice none 0 0 := by
  rintro rfl
  rcases h.2 with ⟨_, h0⟩ | ⟨g, cap, cur, h1, _⟩
  · omega
  · cases h1
 rw [bytesV_enc] at h
 obtain ⟨g, cap, rfl, hbg, hlt, hnc, hcm, hl, hH⟩ := Lib.holds_of_ownsRow h hv
 have hs : l.toArray.size = n := by simpa using hl
 have hm : cap ≤ 9223372036854775807 := by unfold maxLen at hcm; exact hcm
 have hc := reverse_arr g 0 cap l.toArray w hH (by omega)
 rw [hs] at hc
 refine hc.mono ?_
 rintro e w' ⟨rfl, q, rfl⟩
 refine ⟨rfl, ?_, Lib.below_putRow hb (by omega)⟩
 have := Lib.ownsRow_putRow (q := q) (k := n) (ys := l.reverse) h (by simpa using hl) (Nat.le_refl _)
 rw [List.take_of_length_le (by simp; omega)] at this
 rw [bytesV_enc]
 simpa using this
end Go.Proofs.YtjbjpkhibcnenaaGreatDoor
/- Package wire: digits, Int and Num. -/
namespace Go.Proofs.YtjbjpkhibcnenaaGreatDoor
set_option maxRecDepth 100000
set_option maxHeartbeats 1000000
open Go.RowKit
def flipL (l : List UInt8) : List UInt8 := l.map fun b => 255 - b
def sameL (l : List UInt8) : List UInt8 := l
theorem flipL_append (a b : List UInt8) : flipL (a ++ b) = flipL a ++ flipL b := List.map_append
theorem sameL_append (a b : List UInt8) : sameL (a ++ b) = sameL a ++ sameL b := rfl
theorem xor_same (k : Nat) (h : k < 256) : bits BinOp.xor IntKind.u8 (k : Int) 0 = (((UInt8.ofNat k).toNat : Nat) : Int) := by
 rw [ofNat_toNat k h]
 show IntKind.u8.wrap ((BitVec.ofInt 8 (k : Int) ^^^ BitVec.ofInt 8 0).toNat : Int) = _
 have : BitVec.ofInt 8 0 = 0#8 := rfl
 rw [this, BitVec.xor_zero, BitVec.ofInt_natCast, BitVec.toNat_ofNat, Nat.mod_eq_of_lt (by omega)]
 exact IntWalk.u8_in _ (by omega)
theorem xor_flip (k : Nat) (h : k < 256) : bits BinOp.xor IntKind.u8 (k : Int) 255 = (((255 - UInt8.ofNat k).toNat : Nat) : Int) := by
 have H : ∀ k : Fin 256, bits BinOp.xor IntKind.u8 ((k : Nat) : Int) 255 = (((255 - UInt8.ofNat (k : Nat)).toNat : Nat) : Int) := by decide +kernel
 exact H ⟨k, h⟩

theorem digits_pos (m : Nat) (w : World) (hm : m < 18446744073709551616) :
 Calls Tryz.prog 155 #[.int .u64 m, .int .i64 128, .int .i64 1, .int .u8 0] w fun e w' => ∃ v, e = .returned v ∧ w'.ownsRow w.heap.size 5 1 v ((lebL m).length + 1) (bytesV (UInt8.ofNat (128 + (lebL m).length) :: (sameL (lebL m)).reverse)) ∧ Below w.heap.size w w' := by
 obtain ⟨i0, hi, hz0, hz1, hz2⟩ := info_parts infoB
 have HM := Lib.hid hm
 clear hm
 go_enter Tryz.func155, Tryz.ntmps155
 go_upto_region 2 with (at_make; refine wpList_make_own _ rfl _ _ 113 rfl w.heap.size 5 i0 (.int .u8 0) 1 undBs hi hz0 hz1 .i64 .i64 9 9 rfl rfl rfl (by rw [hz2]; decide) (by decide) (Nat.le_refl _) ?_; intro w3 hown hgr)
 have HB0 : Hid (Below w.heap.size w w3) := Lib.hid ((Below.refl w.heap.size w).grown hgr (Nat.le_refl _) (fun k e => by cases e))
 have HO0 : Hid (w3.ownsRow w.heap.size 5 1 (.slice (some ⟨w.heap.size, 0, none⟩) 0 9) 0 (bytesV (sameL []))) := Lib.hid hown
 clear hown hgr
 go_loopw [0, 9] (fun iv v wr => ∃ (q : Nat) (done : List UInt8), lebL m = done ++ lebL q ∧ q < 18446744073709551616 ∧ iv = .int .u64 q ∧ wr.ownsRow w.heap.size 5 1 v done.length (bytesV (sameL done)) ∧ Below w.heap.size w wr) (fun iv _ _ => (intOf iv).toNat)
 case atStart => exact ⟨m, [], rfl, HM.out, rfl, HO0.out, HB0.out⟩
 case round =>
  obtain ⟨q, done, hq, hq64, rfl, hown, hB⟩ := hrel
  clear HO0 HB0
  have HQ := Lib.hid hq
  have HO := Lib.hid hown
  have HB := Lib.hid hB
  have hsz := hB.size
  clear hq hown hB
  by_cases h0 : 0 < q
  ·
   obtain ⟨x, hx⟩ : ∃ x : UInt8, x = UInt8.ofNat (q % 256) := ⟨_, rfl⟩
   have hxx : bits BinOp.xor IntKind.u8 ((q : Int) % 256) 0 = (x.toNat : Int) := by
    have := xor_same (q % 256) (by omega)
    rw [hx, ← this, Int.natCast_emod]
    rfl
   have HX : Hid (lebL m = (done ++ [UInt8.ofNat (q % 256)]) ++ lebL (q / 256)) := by
    refine Lib.hid ?_
    rw [HQ.out, leb_pos (by omega : q ≠ 0)]
    simp
   have HL : Hid (done.length < 8) := by
    refine Lib.hid ?_
    have h1 := leb_len8 HM.out
    rw [HX.out] at h1
    simp at h1
    omega
   have HE : Hid (bytesV (sameL done) ++ [Value.int .u8 (x.toNat : Int)] = bytesV (sameL (done ++ [UInt8.ofNat (q % 256)]))) := by
    refine Lib.hid ?_
    rw [sameL_append, bytesV_append, hx]
    rfl
   clear hx
   have hdiv : q / 256 < q := by omega
   have h0' : decide ((q : Int) > 0) = true := by simp; omega
   go_wp2_with (at_builtin; refine Hid.out ?_)
   refine Lib.hid ?_
   refine wpList_append_own _ rfl _ _ 113 rfl w.heap.size 5 i0 (.int .u8 0) 1 1 undBs hi hz0 hz1 hz2 rfl (by decide) _ _ _ rfl (HO.out.alloc _) ⟨wr.heap.size, 0, none⟩ 1 1 [.int .u8 (x.toNat : Int)] rfl rfl (cells_new _ _ _) (by intro u hu; simp at hu; subst hu; rfl) (by have := HL.out; unfold maxLen; omega) (by have := HL.out; omega) (by simp; omega) ?_
   intro v' w2 hown' hgrow _
   have HO2 : Hid (w2.ownsRow w.heap.size 5 1 v' (done ++ [UInt8.ofNat (q % 256)]).length (bytesV (sameL (done ++ [UInt8.ofNat (q % 256)])))) := by
    refine Lib.hid ?_
    rw [← HE.out, List.length_append]
    exact hown'
   have HB2 : Hid (Below w.heap.size w w2) := Lib.hid ((HB.out.alloc (by omega) _).grown hgrow (by simp; omega) (fun k hk => HO.out.block_ge hk))
   clear hown' hgrow
   go_wp2_with fail
   go_roundw
   case rel => exact ⟨q / 256, done ++ [UInt8.ofNat (q % 256)], HX.out, by omega, by simp, HO2.out, HB2.out⟩
   case measure => simp [intOf]; omega
  ·
   obtain rfl : q = 0 := by omega
   have HD : Hid (done = lebL m) := Lib.hid (by rw [HQ.out, leb_zero, List.append_nil])
   clear h0 hq64
   have hl8 : done.length ≤ 8 := by rw [HD.out]; exact leb_len8 HM.out
   obtain ⟨x, hx⟩ : ∃ x : UInt8, x = UInt8.ofNat (128 + done.length) := ⟨_, rfl⟩
   have hxn : x.toNat = 128 + done.length := by rw [hx, ofNat_toNat _ (by omega)]
   have HX := Lib.hid hx
   clear hx
   obtain ⟨ad, cap, rfl⟩ : ∃ ad cap, u9 = .slice ad done.length cap := by
    rcases HO.out.2 with ⟨h1, h2⟩ | ⟨g, cap, cur, h1, _⟩
    · exact ⟨none, 0, by rw [h1, h2]⟩
    · exact ⟨_, _, h1⟩
   go_wp2_with (at_builtin; refine Hid.out ?_)
   refine Lib.hid ?_
   have HV : Hid (bytesV (sameL done) ++ [Value.int .u8 (128 + (done.length : Int))] = bytesV (sameL done ++ [x])) := by
    refine Lib.hid ?_
    rw [bytesV_append]
    have : ((x.toNat : Nat) : Int) = (128 + (done.length : Int)) := by omega
    rw [← this]
    rfl
   refine wpList_append_own _ rfl _ _ 113 rfl w.heap.size 5 i0 (.int .u8 0) 1 1 undBs hi hz0 hz1 hz2 rfl (by decide) _ _ _ rfl (HO.out.alloc _) ⟨wr.heap.size, 0, none⟩ 1 1 [.int .u8 (128 + (done.length : Int))] rfl rfl (cells_new _ _ _) (by intro u hu; simp at hu; subst hu; rfl) (by unfold maxLen; omega) (by omega) (by simp; omega) ?_
   intro v' w2 hown' hgrow _
   have HO2 : Hid (w2.ownsRow w.heap.size 5 1 v' (done.length + 1) (bytesV (sameL done ++ [x]))) := by
    refine Lib.hid ?_
    rw [← HV.out]
    exact hown'
   have HB2 : Hid (Below w.heap.size w w2) := Lib.hid ((HB.out.alloc (by omega) _).grown hgrow (by simp; omega) (fun k hk => HO.out.block_ge hk))
   clear hown' hgrow
   go_wp2_with fail
   refine (reverse_any w.heap.size _ _ _ _ w w.heap.size HO2.out (by omega) HB2.out (Nat.le_refl _)).mono ?_
   rintro e w3 ⟨rfl, hown3, hb3⟩
   have HO3 : Hid (w3.ownsRow w.heap.size 5 1 v' ((lebL m).length + 1) (bytesV (UInt8.ofNat (128 + (lebL m).length) :: (sameL (lebL m)).reverse))) := by
    refine Lib.hid ?_
    rw [← HD.out, ← HX.out]
    simpa using hown3
   have HB3 := Lib.hid hb3
   clear hown3 hb3
   go_wp2_with fail
   go_ret
   exact ⟨_, rfl, HO3.out, HB3.out⟩

theorem digits_neg (m : Nat) (w : World) (hm : m < 18446744073709551616) :
 Calls Tryz.prog 155 #[.int .u64 m, .int .i64 127, .int .i64 (-1), .int .u8 255] w fun e w' => ∃ v, e = .returned v ∧ w'.ownsRow w.heap.size 5 1 v ((lebL m).length + 1) (bytesV (UInt8.ofNat (127 - (lebL m).length) :: (flipL (lebL m)).reverse)) ∧ Below w.heap.size w w' := by
 obtain ⟨i0, hi, hz0, hz1, hz2⟩ := info_parts infoB
 have HM := Lib.hid hm
 clear hm
 go_enter Tryz.func155, Tryz.ntmps155
 go_upto_region 2 with (at_make; refine wpList_make_own _ rfl _ _ 113 rfl w.heap.size 5 i0 (.int .u8 0) 1 undBs hi hz0 hz1 .i64 .i64 9 9 rfl rfl rfl (by rw [hz2]; decide) (by decide) (Nat.le_refl _) ?_; intro w3 hown hgr)
 have HB0 : Hid (Below w.heap.size w w3) := Lib.hid ((Below.refl w.heap.size w).grown hgr (Nat.le_refl _) (fun k e => by cases e))
 have HO0 : Hid (w3.ownsRow w.heap.size 5 1 (.slice (some ⟨w.heap.size, 0, none⟩) 0 9) 0 (bytesV (flipL []))) := Lib.hid hown
 clear hown hgr
 go_loopw [0, 9] (fun iv v wr => ∃ (q : Nat) (done : List UInt8), lebL m = done ++ lebL q ∧ q < 18446744073709551616 ∧ iv = .int .u64 q ∧ wr.ownsRow w.heap.size 5 1 v done.length (bytesV (flipL done)) ∧ Below w.heap.size w wr) (fun iv _ _ => (intOf iv).toNat)
 case atStart => exact ⟨m, [], rfl, HM.out, rfl, HO0.out, HB0.out⟩
 case round =>
  obtain ⟨q, done, hq, hq64, rfl, hown, hB⟩ := hrel
  clear HO0 HB0
  have HQ := Lib.hid hq
  have HO := Lib.hid hown
  have HB := Lib.hid hB
  have hsz := hB.size
  clear hq hown hB
  by_cases h0 : 0 < q
  ·
   obtain ⟨x, hx⟩ : ∃ x : UInt8, x = 255 - UInt8.ofNat (q % 256) := ⟨_, rfl⟩
   have hxx : bits BinOp.xor IntKind.u8 ((q : Int) % 256) 255 = (x.toNat : Int) := by
    have := xor_flip (q % 256) (by omega)
    rw [hx, ← this, Int.natCast_emod]
    rfl
   have HX : Hid (lebL m = (done ++ [UInt8.ofNat (q % 256)]) ++ lebL (q / 256)) := by
    refine Lib.hid ?_
    rw [HQ.out, leb_pos (by omega : q ≠ 0)]
    simp
   have HL : Hid (done.length < 8) := by
    refine Lib.hid ?_
    have h1 := leb_len8 HM.out
    rw [HX.out] at h1
    simp at h1
    omega
   have HE : Hid (bytesV (flipL done) ++ [Value.int .u8 (x.toNat : Int)] = bytesV (flipL (done ++ [UInt8.ofNat (q % 256)]))) := by
    refine Lib.hid ?_
    rw [flipL_append, bytesV_append, hx]
    rfl
   clear hx
   have hdiv : q / 256 < q := by omega
   have h0' : decide ((q : Int) > 0) = true := by simp; omega
   go_wp2_with (at_builtin; refine Hid.out ?_)
   refine Lib.hid ?_
   refine wpList_append_own _ rfl _ _ 113 rfl w.heap.size 5 i0 (.int .u8 0) 1 1 undBs hi hz0 hz1 hz2 rfl (by decide) _ _ _ rfl (HO.out.alloc _) ⟨wr.heap.size, 0, none⟩ 1 1 [.int .u8 (x.toNat : Int)] rfl rfl (cells_new _ _ _) (by intro u hu; simp at hu; subst hu; rfl) (by have := HL.out; unfold maxLen; omega) (by have := HL.out; omega) (by simp; omega) ?_
   intro v' w2 hown' hgrow _
   have HO2 : Hid (w2.ownsRow w.heap.size 5 1 v' (done ++ [UInt8.ofNat (q % 256)]).length (bytesV (flipL (done ++ [UInt8.ofNat (q % 256)])))) := by
    refine Lib.hid ?_
    rw [← HE.out, List.length_append]
    exact hown'
   have HB2 : Hid (Below w.heap.size w w2) := Lib.hid ((HB.out.alloc (by omega) _).grown hgrow (by simp; omega) (fun k hk => HO.out.block_ge hk))
   clear hown' hgrow
   go_wp2_with fail
   go_roundw
   case rel => exact ⟨q / 256, done ++ [UInt8.ofNat (q % 256)], HX.out, by omega, by simp, HO2.out, HB2.out⟩
   case measure => simp [intOf]; omega
  ·
   obtain rfl : q = 0 := by omega
   have HD : Hid (done = lebL m) := Lib.hid (by rw [HQ.out, leb_zero, List.append_nil])
   clear h0 hq64
   have hl8 : done.length ≤ 8 := by rw [HD.out]; exact leb_len8 HM.out
   obtain ⟨x, hx⟩ : ∃ x : UInt8, x = UInt8.ofNat (127 - done.length) := ⟨_, rfl⟩
   have hxn : x.toNat = 127 - done.length := by rw [hx, ofNat_toNat _ (by omega)]
   have HX := Lib.hid hx
   clear hx
   obtain ⟨ad, cap, rfl⟩ : ∃ ad cap, u9 = .slice ad done.length cap := by
    rcases HO.out.2 with ⟨h1, h2⟩ | ⟨g, cap, cur, h1, _⟩
    · exact ⟨none, 0, by rw [h1, h2]⟩
    · exact ⟨_, _, h1⟩
   go_wp2_with (at_builtin; refine Hid.out ?_)
   refine Lib.hid ?_
   have HV : Hid (bytesV (flipL done) ++ [Value.int .u8 (127 + -(done.length : Int))] = bytesV (flipL done ++ [x])) := by
    refine Lib.hid ?_
    rw [bytesV_append]
    have : ((x.toNat : Nat) : Int) = (127 + -(done.length : Int)) := by omega
    rw [← this]
    rfl
   refine wpList_append_own _ rfl _ _ 113 rfl w.heap.size 5 i0 (.int .u8 0) 1 1 undBs hi hz0 hz1 hz2 rfl (by decide) _ _ _ rfl (HO.out.alloc _) ⟨wr.heap.size, 0, none⟩ 1 1 [.int .u8 (127 + -(done.length : Int))] rfl rfl (cells_new _ _ _) (by intro u hu; simp at hu; subst hu; rfl) (by unfold maxLen; omega) (by omega) (by simp; omega) ?_
   intro v' w2 hown' hgrow _
   have HO2 : Hid (w2.ownsRow w.heap.size 5 1 v' (done.length + 1) (bytesV (flipL done ++ [x]))) := by
    refine Lib.hid ?_
    rw [← HV.out]
    exact hown'
   have HB2 : Hid (Below w.heap.size w w2) := Lib.hid ((HB.out.alloc (by omega) _).grown hgrow (by simp; omega) (fun k hk => HO.out.block_ge hk))
   clear hown' hgrow
   go_wp2_with fail
   refine (reverse_any w.heap.size _ _ _ _ w w.heap.size HO2.out (by omega) HB2.out (Nat.le_refl _)).mono ?_
   rintro e w3 ⟨rfl, hown3, hb3⟩
   have HO3 : Hid (w3.ownsRow w.heap.size 5 1 v' ((lebL m).length + 1) (bytesV (UInt8.ofNat (127 - (lebL m).length) :: (flipL (lebL m)).reverse))) := by
    refine Lib.hid ?_
    rw [← HD.out, ← HX.out]
    simpa using hown3
   have HB3 := Lib.hid hb3
   clear hown3 hb3
   go_wp2_with fail
   go_ret
   exact ⟨_, rfl, HO3.out, HB3.out⟩

theorem int_any (n : Int) (w : World) (hn : I64 n) :
 Calls Tryz.prog 140 #[.int .i64 n] w fun e w' => e = .returned (.string ⟨(intL n).toArray⟩) ∧ Below w.heap.size w w' := by
 unfold I64 at hn
 by_cases h0 : 0 ≤ n
 ·
  obtain ⟨m, rfl⟩ : ∃ m : Nat, n = (m : Int) := ⟨n.toNat, by omega⟩
  have HI : Hid (intL (m : Int) = UInt8.ofNat (128 + (lebL m).length) :: (sameL (lebL m)).reverse) := by
   refine Lib.hid ?_
   unfold intL
   rw [if_pos (by omega), Int.toNat_natCast]
   rfl
  go_enter Tryz.func140, Tryz.ntmps140
  go_wp2_with fail
  refine (digits_pos m _ (by omega)).mono ?_
  rintro e w1 ⟨v, rfl, hown, hb⟩
  rw [← HI.out] at hown
  have HO := Lib.hid hown
  have HB := Lib.hid hb
  clear hown hb
  go_wp2_with (refine wpList_string_own rfl 113 9 5 _ rfl undBs undB undS _ rfl w.heap.size _ (intL (m : Int)) HO.out ?_)
  go_wp2_with fail
  go_ret
  exact ⟨rfl, HB.out⟩
 ·
  obtain ⟨m, rfl⟩ : ∃ m : Nat, n = -(m : Int) - 1 := ⟨(-n - 1).toNat, by omega⟩
  have HI : Hid (intL (-(m : Int) - 1) = UInt8.ofNat (127 - (lebL m).length) :: (flipL (lebL m)).reverse) := by
   refine Lib.hid ?_
   unfold intL
   have : (-(-(m : Int) - 1 + 1)).toNat = m := by omega
   rw [if_neg (by omega), this]
   rfl
  have e1 : -(m : Int) - 1 + 1 = -(m : Int) := by omega
  have e2 : IntKind.u64.wrap (m : Int) = (m : Int) := IntWalk.u64_in _ (by omega)
  go_enter Tryz.func140, Tryz.ntmps140
  go_wp2_with fail
  refine (digits_neg m _ (by omega)).mono ?_
  rintro e w1 ⟨v, rfl, hown, hb⟩
  rw [← HI.out] at hown
  have HO := Lib.hid hown
  have HB := Lib.hid hb
  clear hown hb
  go_wp2_with (refine wpList_string_own rfl 113 9 5 _ rfl undBs undB undS _ rfl w.heap.size _ (intL (-(m : Int) - 1)) HO.out ?_)
  go_wp2_with fail
  go_ret
  exact ⟨rfl, HB.out⟩
theorem num_any (n : Int) (w : World) (hn : I64 n) :
 Calls Tryz.prog 137 #[.int .i64 n] w fun e w' => e = .returned (.string ⟨(numL n).toArray⟩) ∧ Below w.heap.size w w' := by
 have HN := Lib.hid hn
 unfold I64 at hn
 by_cases h0 : n < 0
 ·
  have HI : Hid (numL n = []) := Lib.hid (by unfold numL; rw [if_pos h0])
  rw [HI.out]
  go_enter Tryz.func137, Tryz.ntmps137
  go_wp2_with fail
  go_ret
  exact ⟨rfl, Below.refl _ _⟩
 ·
  have HI : Hid (numL n = intL n) := Lib.hid (by unfold numL; rw [if_neg h0])
  rw [HI.out]
  go_enter Tryz.func137, Tryz.ntmps137
  go_wp2_with fail
  refine (int_any n _ HN.out).mono ?_
  rintro e w1 ⟨rfl, hb⟩
  have HB := Lib.hid hb
  clear hb
  go_wp2_with fail
  go_ret
  exact ⟨rfl, HB.out⟩
end Go.Proofs.YtjbjpkhibcnenaaGreatDoor
/- strings.Builder: copyCheck, WriteByte and WriteString on a builder that the call itself has made; wire.Text. -/
namespace Go.Proofs.YtjbjpkhibcnenaaGreatDoor
set_option maxRecDepth 100000
set_option maxHeartbeats 1000000
open Go.RowKit
theorem liesBuilder : liesAt Tryz.prog Tryz.prog.depth 185 (2 / Tryz.prog.cellsOf 185) 0 185 1 = true := by kernel_rfl
theorem index_cons_zero (s : List UInt8) : Lib.index (0 :: s) [0] = 0 := by simp [Lib.index]
theorem index_cons_ne {c : UInt8} (h : c ≠ 0) (s : List UInt8) : Lib.index (c :: s) [0] = if Lib.index s [0] == -1 then -1 else Lib.index s [0] + 1 := by
 have h' : ¬ (0 : UInt8) = c := fun e => h e.symm
 simp [Lib.index, h']
theorem replaceK_esc (s : List UInt8) : Lib.replaceK [0] [0, 255] (s.count 0) s = escTs s := by
 induction s with
 | nil => rfl
 | cons c s ih =>
  by_cases hc : c = 0
  ·
   subst hc
   have e : (0 :: s).count (0 : UInt8) = s.count 0 + 1 := by simp
   rw [e, Lib.replaceK_hit _ _ _ _ 0 (index_cons_zero s)]
   show [0, 255] ++ Lib.replaceK [0] [0, 255] (s.count 0) s = escT 0 ++ escTs s
   rw [ih]
   rfl
  ·
   have e : (c :: s).count (0 : UInt8) = s.count 0 := List.count_cons_of_ne hc
   have e2 : escTs (c :: s) = c :: escTs s := by
    show escT c ++ escTs s = _
    rw [escT, if_neg hc]
    rfl
   rw [e, e2, ← ih]
   cases hk : s.count (0 : UInt8) with
   | zero => rfl
   | succ k =>
    obtain ⟨i, hi⟩ := Lib.index_of_count (s := s) (old := [0]) (by rw [Lib.count_one, hk]; omega)
    rw [Lib.replaceK_hit _ _ _ _ i hi]
    have hi2 : Lib.index (c :: s) [0] = ((i + 1 : Nat) : Int) := by
     rw [index_cons_ne hc, hi, if_neg (by rw [beq_iff_eq]; omega)]
     omega
    rw [Lib.replaceK_hit _ _ _ _ (i + 1) hi2]
    rfl
theorem replaceAll_esc (s : List UInt8) : Lib.replaceAll s [0] [0, 255] = escTs s := by
 have hn : Lib.replaceNum s [0] (-1) = s.count 0 := by
  unfold Lib.replaceNum
  rw [if_pos (Or.inl (by decide)), Lib.count_one]
 unfold Lib.replaceAll Lib.replace
 rw [hn, if_neg (by decide), replaceK_esc]
/-- the library's variable MaxLen holds an int -/
def MLen (w : World) : Prop := ∃ m : Int, w.cell? ⟨4, 0, none⟩ = some (.int .i64 m)
theorem mlen_lt {w : World} (h : MLen w) : 4 < w.heap.size := by
 obtain ⟨m, hm⟩ := h
 rcases Nat.lt_or_ge 4 w.heap.size with h' | h'
 · exact h'
 · simp [World.cell?, Array.getElem?_eq_none h'] at hm
theorem MLen.below {B : Nat} {w w' : World} (h : MLen w) (hb : Below B w w') (hB : 4 < B) : MLen w' := by
 obtain ⟨m, hm⟩ := h
 exact ⟨m, (hb.cell (p := ⟨4, 0, none⟩) hB).trans hm⟩
theorem MLen.up {w w' : World} (h : MLen w) (hb : Below w.heap.size w w') : MLen w' := h.below hb (mlen_lt h)
theorem countB_zero_le (s : ByteArray) : Lib.countB s ⟨#[0]⟩ ≤ s.size := Lib.countB_le ⟨#[0]⟩ (by decide) s.size s (Nat.le_refl _)
theorem text_any (s : ByteArray) (w : World) (hs : s.size ≤ 10000000) (hm : MLen w) :
 Calls Tryz.prog 119 #[.string s] w fun e w' => e = .returned (.string ⟨(textL s.data.toList).toArray⟩) ∧ Below w.heap.size w w' := by
 obtain ⟨m, hm⟩ := hm
 have HM := Lib.hid hm
 clear hm
 have HT : Hid (Lib.replaceAll s.data.toList [0] [0, 255] = escTs s.data.toList) := Lib.hid (replaceAll_esc _)
 have HE : Hid ((⟨(escTs s.data.toList).toArray⟩ : ByteArray) ++ ⟨#[0, 1]⟩ = ⟨(textL s.data.toList).toArray⟩) := by
  refine Lib.hid ?_
  apply ByteArray.ext
  apply Array.ext'
  simp [textL]
 have hl : (escTs s.data.toList).length ≤ 20000000 := by
  have h1 := escTs_len s.data.toList
  have h2 : s.data.toList.length = s.size := by simp
  omega
 have hcz := countB_zero_le s
 go_enter Tryz.func119, Tryz.ntmps119
 go_wp2_with fail
 refine (Tryz.strings_ReplaceAll s ⟨#[0]⟩ ⟨#[0, 255]⟩ m _ (by omega) HM.out (by decide) (by rw [show (ByteArray.mk #[0, 255]).size = 2 from rfl]; omega)).mono ?_
 rintro e w1 ⟨rfl, hb⟩
 have HB := Lib.hid hb
 clear hb
 simp only [HT.out]
 go_wp2_with fail
 go_ret
 exact ⟨congrArg (fun x => Ending.returned (Value.string x)) HE.out, HB.out⟩
end Go.Proofs.YtjbjpkhibcnenaaGreatDoor
/- Package wire: lists: join, Nums, Texts. A slice that came in, or that the call made, as a list (CArg). -/
namespace Go.Proofs.YtjbjpkhibcnenaaGreatDoor
open Go.RowKit
/-- v is a slice whose elements are xs, each one cell, anywhere in a block that exists -/
def CArg {α : Type} (enc : α → Value) (v : Value) (xs : List α) (w : World) : Prop :=
 ∃ a c, v = .slice a xs.length c ∧ ∀ j x, xs[j]? = some x → ∃ p, a = some p ∧ (p.add j).block < w.heap.size ∧ w.cell? (p.add j) = some (enc x)
theorem CArg.below {α : Type} {enc : α → Value} {v : Value} {xs : List α} {B : Nat} {w w' : World} (h : CArg enc v xs w) (hb : Below B w w') (hB : w.heap.size ≤ B) : CArg enc v xs w' := by
 obtain ⟨a, c, rfl, h⟩ := h
 refine ⟨a, c, rfl, fun j s hj => ?_⟩
 obtain ⟨p, h1, h2, h3⟩ := h j s hj
 exact ⟨p, h1, Nat.lt_of_lt_of_le h2 hb.size, (hb.cell (Nat.lt_of_lt_of_le h2 hB)).trans h3⟩
theorem CArg.grown {α : Type} {enc : α → Value} {v : Value} {xs : List α} {w w' : World} {row : Option Nat} (h : CArg enc v xs w) (hg : w.grownBy w' row) (hne : ∀ a n c, v = .slice (some a) n c → some a.block ≠ row) : CArg enc v xs w' := by
 obtain ⟨a, c, rfl, h⟩ := h
 refine ⟨a, c, rfl, fun j s hj => ?_⟩
 obtain ⟨p, rfl, h2, h3⟩ := h j s hj
 refine ⟨p, rfl, Nat.lt_of_lt_of_le h2 hg.size, hg.cell h3 ?_⟩
 have := hne p _ _ rfl
 have e : (p.add j).block = p.block := by
  unfold Addr.add
  split <;> rfl
 rw [e]
 exact this
theorem CArg.of_owns {α : Type} {enc : α → Value} {w : World} {base n : Nat} {e : TypeId} {v : Value} {xs : List α} (hn : xs.length = n) (h : w.ownsRow base e 1 v n (xs.map enc)) : CArg enc v xs w := by
 subst hn
 rcases h.2 with ⟨rfl, h0⟩ | ⟨g, cap, cur, rfl, hg, hh, hnc, _, hcs, htk⟩
 ·
  have : xs = [] := List.eq_nil_of_length_eq_zero h0
  subst this
  exact ⟨none, 0, rfl, fun j x hj => by simp at hj⟩
 ·
  refine ⟨_, cap, rfl, fun j x hj => ⟨⟨g, 0, none⟩, rfl, by rw [Addr.add_mid]; exact blk_lt hh, ?_⟩⟩
  have hjl : j < xs.length := (List.getElem?_eq_some_iff.1 hj).1
  have h1 : (cur.toList.take (xs.length * 1))[j]? = (xs.map enc)[j]? := by rw [htk]
  rw [List.getElem?_take, if_pos (by omega), List.getElem?_map, hj] at h1
  rw [Addr.add_mid, Nat.zero_add, cell_of_row _ _ _ _ _ _ hh]
  simpa using h1
end Go.Proofs.YtjbjpkhibcnenaaGreatDoor
/- Package wire: leading. -/
namespace Go.Proofs.YtjbjpkhibcnenaaGreatDoor
open Go.RowKit
theorem flip_toNat (b : UInt8) : (255 - b).toNat = 255 - b.toNat := by
 have := b.toNat_lt
 rw [UInt8.toNat_sub_of_le]
 · rfl
 · rw [UInt8.le_iff_toNat_le]; show b.toNat ≤ 255; omega
end Go.Proofs.YtjbjpkhibcnenaaGreatDoor
/- Package wire: a reader: Open, Int, Num, Text, Left, Done. -/
namespace Go.Proofs.YtjbjpkhibcnenaaGreatDoor
open Go.RowKit
theorem grown_refl (w : World) (row : Option Nat) : w.grownBy w row := ⟨rfl, rfl, rfl, Nat.le_refl _, fun _ _ _ => rfl⟩
end Go.Proofs.YtjbjpkhibcnenaaGreatDoor
/- sign.hash, nonce and challenge. -/
namespace Go.Proofs.YtjbjpkhibcnenaaGreatDoor
set_option maxRecDepth 100000
set_option maxHeartbeats 2000000
open Go.RowKit
theorem join_empty : ∀ l : List (List UInt8), Lib.join l [] = l.flatten
 | [] => rfl
 | x :: r => by
  rw [Lib.join_cons, List.flatten_cons]
  unfold Lib.joinTail
  simp
theorem hash_any (bk : Nat) (xs : List ByteArray) (w : World) (hg : Glob w) (hcells : ∀ (j : Nat) x, xs[j]? = some x → w.cell? ⟨bk, 0 + j, none⟩ = some (.string x)) (hbk : bk < w.heap.size) (hN : xs.length ≤ 100) (hlen : (xs.map (·.data.toList)).flatten.length ≤ 100000000) :
 Calls Tryz.prog 136 #[.slice (some ⟨bk, 0, none⟩) xs.length xs.length] w fun e w' => e = .returned (.int .i64 (shortL (xs.map (·.data.toList)).flatten : Nat)) ∧ Below w.heap.size w w' := by
 have HG := Lib.hid hg
 have HC := Lib.hid hcells
 have hj : (Lib.join (xs.map (·.data.toList)) (ByteArray.mk #[]).data.toList) = (xs.map (·.data.toList)).flatten := join_empty _
 have HJ := Lib.hid hj
 obtain ⟨F, hF⟩ : ∃ F, F = (xs.map (·.data.toList)).flatten := ⟨_, rfl⟩
 rw [← hF] at HJ hlen ⊢
 obtain ⟨S, hS⟩ : ∃ S : ByteArray, S = ⟨F.toArray⟩ := ⟨_, rfl⟩
 have HL : Hid (S.size ≤ 100000000) := Lib.hid (by rw [hS]; show F.toArray.size ≤ _; rw [List.size_toArray]; exact hlen)
 have HL2 := Lib.hid hlen
 have HS : Hid (S.data.toList = F) := Lib.hid (by rw [hS])
 have HSd := Lib.hid hS
 obtain ⟨z, hz⟩ : ∃ z, z = shortL F := ⟨_, rfl⟩
 have HZ := Lib.hid hz
 rw [← hz]
 clear hg hcells hj hlen hF hS hz
 go_enter Tryz.func136, Tryz.ntmps136
 go_wp2_with fail
 refine (Tryz.strings_Join bk 0 xs.length xs ⟨#[]⟩ _ HC.out hbk (by omega) (Nat.le_refl _) (by rw [HJ.out]; exact Nat.le_trans HL2.out (by decide))).mono ?_
 rintro e w1 ⟨rfl, hb⟩
 rw [HJ.out, ← HSd.out]
 have HG1 := Lib.hid (HG.out.below hb HG.out.size)
 have HB1 := Lib.hid hb
 clear hb
 go_wp2_with fail
 refine (short_any S _ HG1.out HL.out).mono ?_
 rintro e w2 ⟨rfl, hb⟩
 rw [HS.out, ← HZ.out]
 have HB2 := Lib.hid (HB1.out.trans (hb.mono HB1.out.size))
 clear hb
 go_wp2_with fail
 go_ret
 exact ⟨rfl, HB2.out⟩
end Go.Proofs.YtjbjpkhibcnenaaGreatDoor
/- sign.challenge and sign.nonce. -/
namespace Go.Proofs.YtjbjpkhibcnenaaGreatDoor
set_option maxRecDepth 100000
set_option maxHeartbeats 2000000
open Go.RowKit
def signB : List UInt8 := [115, 105, 103, 110]
def nonceB : List UInt8 := [110, 111, 110, 99, 101]
/-- what a challenge hashes -/
def chalB (r p : Int) (c m : List UInt8) : List UInt8 := textL signB ++ (numL r ++ (numL p ++ (textL c ++ textL m)))
def chalN (r p : Int) (c m : List UInt8) : Nat := shortL (chalB r p c m) % gQ
theorem numL_len {n : Int} (h : I64 n) : (numL n).length ≤ 9 := by
 unfold numL
 split
 · exact Nat.zero_le _
 · exact (intL_len h).2
theorem shortL_lt (l : List UInt8) : shortL l < 1152921504606846976 := by
 unfold shortL
 have := topN_lt (sumB l) 8
 have e : (256 : Nat) ^ 8 = 18446744073709551616 := by decide
 generalize topN (sumB l) 8 = q at *
 omega
theorem chal_any (r p : Int) (c m : ByteArray) (w : World) (hr : I64 r) (hp : I64 p) (hc : c.size ≤ 2000) (hm : m.size ≤ 10000000) (hg : Glob w) (hml : MLen w) :
 Calls Tryz.prog 114 #[.int .i64 r, .int .i64 p, .string c, .string m] w fun e w' => e = .returned (.int .i64 (chalN r p c.data.toList m.data.toList : Nat)) ∧ Below w.heap.size w w' := by
 have HG := Lib.hid hg
 have HM := Lib.hid hml
 have HR := Lib.hid hr
 have HP := Lib.hid hp
 clear hg hml hr hp
 go_enter Tryz.func114, Tryz.ntmps114
 go_wp2_with fail
 refine (text_any ⟨#[115, 105, 103, 110]⟩ _ (by decide) HM.out).mono ?_
 rintro e w1 ⟨rfl, hb⟩
 have HB1 := Lib.hid hb
 obtain ⟨t1, ht1⟩ : ∃ t1 : ByteArray, t1 = ⟨(textL (ByteArray.mk #[115, 105, 103, 110]).data.toList).toArray⟩ := ⟨_, rfl⟩
 rw [← ht1]
 have HT1 := Lib.hid ht1
 clear hb ht1
 go_wp2_with fail
 refine (num_any r _ HR.out).mono ?_
 rintro e w2 ⟨rfl, hb⟩
 have HB2 := Lib.hid (HB1.out.trans (hb.mono HB1.out.size))
 obtain ⟨t2, ht2⟩ : ∃ t2 : ByteArray, t2 = ⟨(numL r).toArray⟩ := ⟨_, rfl⟩
 rw [← ht2]
 have HT2 := Lib.hid ht2
 clear hb ht2
 go_wp2_with fail
 refine (num_any p _ HP.out).mono ?_
 rintro e w3 ⟨rfl, hb⟩
 have HB3 := Lib.hid (HB2.out.trans (hb.mono HB2.out.size))
 obtain ⟨t3, ht3⟩ : ∃ t3 : ByteArray, t3 = ⟨(numL p).toArray⟩ := ⟨_, rfl⟩
 rw [← ht3]
 have HT3 := Lib.hid ht3
 clear hb ht3
 go_wp2_with fail
 refine (text_any c _ (by omega) (HM.out.up HB3.out)).mono ?_
 rintro e w4 ⟨rfl, hb⟩
 have HB4 := Lib.hid (HB3.out.trans (hb.mono HB3.out.size))
 obtain ⟨t4, ht4⟩ : ∃ t4 : ByteArray, t4 = ⟨(textL c.data.toList).toArray⟩ := ⟨_, rfl⟩
 rw [← ht4]
 have HT4 := Lib.hid ht4
 clear hb ht4
 go_wp2_with fail
 refine (text_any m _ (by omega) (HM.out.up HB4.out)).mono ?_
 rintro e w5 ⟨rfl, hb⟩
 have HB5 := Lib.hid (HB4.out.trans (hb.mono HB4.out.size))
 obtain ⟨t5, ht5⟩ : ∃ t5 : ByteArray, t5 = ⟨(textL m.data.toList).toArray⟩ := ⟨_, rfl⟩
 rw [← ht5]
 have HT5 := Lib.hid ht5
 clear hb ht5
 have HB6 := Lib.hid (HB5.out.alloc HB5.out.size (.cells #[.string t1, .string t2, .string t3, .string t4, .string t5] 9))
 have HC6 := Lib.hid (heap_alloc_new w5 (.cells #[.string t1, .string t2, .string t3, .string t4, .string t5] 9))
 have HF : Hid (([t1, t2, t3, t4, t5].map (·.data.toList)).flatten = chalB r p c.data.toList m.data.toList) := Lib.hid (by
  rw [HT1.out, HT2.out, HT3.out, HT4.out, HT5.out]
  simp [chalB, signB])
 have HLn : Hid ((([t1, t2, t3, t4, t5].map (·.data.toList)).flatten).length ≤ 100000000) := Lib.hid (by
  rw [HF.out]
  unfold chalB
  have a1 := textL_len signB
  have a2 := numL_len HR.out
  have a3 := numL_len HP.out
  have a4 := textL_len c.data.toList
  have a5 := textL_len m.data.toList
  have b4 : c.data.toList.length ≤ 2000 := hc
  have b5 : m.data.toList.length ≤ 10000000 := hm
  have b1 : signB.length = 4 := rfl
  simp only [List.length_append]
  omega)
 have hcl : Hid (∀ (j : Nat) x, [t1, t2, t3, t4, t5][j]? = some x → (w5.alloc (.cells #[.string t1, .string t2, .string t3, .string t4, .string t5] 9)).cell? ⟨w5.heap.size, 0 + j, none⟩ = some (.string x)) := Lib.hid (fun j x hj => by
  rw [Nat.zero_add]
  have h := cell_of_row _ _ j _ _ _ HC6.out
  rw [← Array.getElem?_toList] at h
  have h2 : ([t1, t2, t3, t4, t5].map Value.string)[j]? = some (.string x) := by rw [List.getElem?_map, hj]; rfl
  exact h.trans h2)
 obtain ⟨z, hz⟩ : ∃ z, z = shortL (chalB r p c.data.toList m.data.toList) := ⟨_, rfl⟩
 have HZ := Lib.hid hz
 have HE : Hid (chalN r p c.data.toList m.data.toList = z % gQ) := Lib.hid (by unfold chalN; rw [hz])
 clear hz
 go_wp2_with fail
 refine (hash_any w5.heap.size [t1, t2, t3, t4, t5] _ (HG.out.below HB6.out HG.out.size) hcl.out (blk_lt HC6.out) (show 5 ≤ 100 by decide) HLn.out).mono ?_
 rintro e w7 ⟨rfl, hb⟩
 rw [HF.out, ← HZ.out]
 have HB7 := Lib.hid (HB6.out.trans (hb.mono HB6.out.size))
 clear hb
 obtain ⟨y, hy⟩ : ∃ y, y = z % gQ := ⟨_, rfl⟩
 have FY : (z : Int) % 1152921504606845789 = (y : Int) := by rw [hy]; exact (Int.natCast_emod z gQ).symm
 have HY := Lib.hid hy
 have hzb : z < 1152921504606846976 := by rw [HZ.out]; exact shortL_lt _
 clear hy
 go_wp2_with fail
 go_ret
 refine ⟨?_, HB7.out⟩
 rw [HE.out, ← HY.out]
 first | rfl | exact congrArg (fun v => Ending.returned (Value.int .i64 v)) FY
end Go.Proofs.YtjbjpkhibcnenaaGreatDoor
