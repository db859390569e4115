/- Texts merged: RefG RefH SRef5 -/
import Derived.Test.YtjbjpkhibcnenaaGreatDoorRefE
import Derived.Test.YtjbjpkhibcnenaaGreatDoorWShelf
import Derived.Test.YtjbjpkhibcnenaaGreatDoorRefF
import Derived.Outline
import Derived.Test.YtjbjpkhibcnenaaGreatDoorWList
import Derived.Test.YtjbjpkhibcnenaaGreatDoorSLaw
import Derived.Test.YtjbjpkhibcnenaaGreatDoorReg
/- The words of a block and the states of the reference are those of the program: plain facts. -/
namespace Go.Proofs.YtjbjpkhibcnenaaGreatDoor
open Go.RowKit
/-- the word j out of the first k bytes -/
def wPart (l : List UInt8) (k j : Nat) : Nat :=
 (if 4 * j < k then byteAt l (4 * j) else 0) + (if 4 * j + 1 < k then byteAt l (4 * j + 1) * 256 else 0) + (if 4 * j + 2 < k then byteAt l (4 * j + 2) * 65536 else 0) + (if 4 * j + 3 < k then byteAt l (4 * j + 3) * 16777216 else 0)
theorem or_high (o b r M : Nat) (hM : M = 2 ^ (8 * r)) (ho : o < M) (hb : b < 256) (hr : r < 4) : bits .or .u32 (o : Int) ((b : Int) * 2 ^ (8 * r) % 4294967296) = ((o + b * M : Nat) : Int) := by
 have h1 : b * M + o = b * M ||| o := by
  have := Nat.shiftLeft_add_eq_or_of_lt (a := b) (b := o) (i := 8 * r) (by rw [← hM]; exact ho)
  simpa [Nat.shiftLeft_eq, ← hM] using this
 have hMl : M ≤ 16777216 := by
  rw [hM]
  exact Nat.le_trans (Nat.pow_le_pow_right (by decide) (show 8 * r ≤ 24 by omega)) (by decide)
 have h2 : b * M < 4294967296 := by
  have : b * M ≤ 255 * 16777216 := Nat.mul_le_mul (by omega) hMl
  omega
 have h3 : ((b : Int) * 2 ^ (8 * r) % 4294967296) = ((b * M : Nat) : Int) := by
  rw [hM]
  have e : ((b : Int) * 2 ^ (8 * r)) = ((b * 2 ^ (8 * r) : Nat) : Int) := by push_cast; rfl
  rw [e, ← hM]
  omega
 rw [h3, u32_or_nat _ _ (by omega) h2, Nat.or_comm, ← h1, Nat.add_comm]
theorem wUpto_part (l : List UInt8) : ∀ k, k ≤ 64 → ∀ j, j < 16 → (wUpto l k)[j]?.getD 0 = ((wPart l k j : Nat) : Int)
 | 0, _, j, hj => by
  simp only [wUpto, wPart]
  rw [List.getElem?_replicate, if_pos hj]
  simp
 | k + 1, hk, j, hj => by
  have ih := wUpto_part l k (by omega)
  simp only [wUpto]
  rw [List.getElem?_set, wUpto_len]
  by_cases e : k / 4 = j
  ·
   subst e
   rw [if_pos rfl, if_pos hj, Option.getD_some, ih _ hj]
   have hb := byteAt_lt l k
   have b0 := byteAt_lt l (4 * (k / 4))
   have b1 := byteAt_lt l (4 * (k / 4) + 1)
   have b2 := byteAt_lt l (4 * (k / 4) + 2)
   show bits .or .u32 _ ((byteAt l k : Int) * 2 ^ (8 * (k % 4)) % 4294967296) = _
   have hr : k % 4 = 0 ∨ k % 4 = 1 ∨ k % 4 = 2 ∨ k % 4 = 3 := by omega
   unfold wPart
   rcases hr with hr | hr | hr | hr
   ·
    have hk4 : 4 * (k / 4) = k := by omega
    rw [hr, if_neg (by omega), if_neg (by omega), if_neg (by omega), if_neg (by omega), if_pos (by omega), if_neg (by omega), if_neg (by omega), if_neg (by omega), or_high _ _ 0 1 rfl (by omega) hb (by omega), hk4]
    omega
   ·
    have hk4 : 4 * (k / 4) + 1 = k := by omega
    rw [hr, if_pos (by omega), if_neg (by omega), if_neg (by omega), if_neg (by omega), if_pos (by omega), if_pos (by omega), if_neg (by omega), if_neg (by omega), or_high _ _ 1 256 rfl (by omega) hb (by omega), hk4]
    omega
   ·
    have hk4 : 4 * (k / 4) + 2 = k := by omega
    rw [hr, if_pos (by omega), if_pos (by omega), if_neg (by omega), if_neg (by omega), if_pos (by omega), if_pos (by omega), if_pos (by omega), if_neg (by omega), or_high _ _ 2 65536 rfl (by omega) hb (by omega), hk4]
    omega
   ·
    have hk4 : 4 * (k / 4) + 3 = k := by omega
    rw [hr, if_pos (by omega), if_pos (by omega), if_pos (by omega), if_neg (by omega), if_pos (by omega), if_pos (by omega), if_pos (by omega), if_pos (by omega), or_high _ _ 3 16777216 rfl (by omega) hb (by omega), hk4]
    omega
  ·
   rw [if_neg e, ih _ hj]
   have hne : ∀ i, i < 4 → (4 * j + i < k + 1 ↔ 4 * j + i < k) := fun i hi => by omega
   have h0 := hne 0 (by omega)
   simp only [Nat.add_zero] at h0
   simp only [wPart, h0, hne 1 (by omega), hne 2 (by omega), hne 3 (by omega)]
theorem blk_byte (l : List UInt8) (a i : Nat) (hi : i < 64) : byteAt (blk l a 64) i = byteAt l (a + i) := by
 unfold byteAt blk
 rw [List.getElem?_take, if_pos hi, List.getElem?_drop]
theorem byte_out (l : List UInt8) (i : Nat) (h : l.length ≤ i) : byteAt l i = 0 := by
 unfold byteAt
 rw [List.getElem?_eq_none h]
 rfl
theorem wUpto_mAt (l : List UInt8) (a L : Nat) (hL : (blk l a 64).length = L) : wUpto (blk l a 64) L = mAt l a := by
 have hL64 : L ≤ 64 := by rw [← hL]; unfold blk; rw [List.length_take]; omega
 apply List.ext_getElem
 · rw [wUpto_len, mAt_len]
 ·
  intro j h1 h2
  have hj : j < 16 := by rw [wUpto_len] at h1; exact h1
  have e1 := wUpto_part (blk l a 64) L hL64 j hj
  rw [List.getElem?_eq_getElem h1, Option.getD_some] at e1
  have e2 : (mAt l a)[j]'h2 = ((topW l (a + 4 * j) 4 : Nat) : Int) := by simp [mAt]
  rw [e1]
  refine Eq.trans ?_ e2.symm
  have hz : ∀ i, (if i < L then byteAt (blk l a 64) i else 0) = byteAt (blk l a 64) i := fun i => by
   by_cases h : i < L
   · rw [if_pos h]
   · rw [if_neg h, byte_out _ _ (by omega)]
  have hm : ∀ i M : Nat, (if i < L then byteAt (blk l a 64) i * M else 0) = byteAt (blk l a 64) i * M := fun i M => by
   by_cases h : i < L
   · rw [if_pos h]
   · rw [if_neg h, byte_out _ _ (by omega), Nat.zero_mul]
  unfold wPart
  rw [hz, hm, hm, hm, blk_byte _ _ _ (by omega), blk_byte _ _ _ (by omega), blk_byte _ _ _ (by omega), blk_byte _ _ _ (by omega)]
  simp only [topW, ← Nat.add_assoc, Nat.sub_zero]
  show ((_ : Nat) : Int) = ((_ : Nat) : Int)
  congr 1
  simp only [show (3 - 1 : Nat) = 2 from rfl, show (3 - 2 : Nat) = 1 from rfl, show (3 - 3 : Nat) = 0 from rfl, Nat.add_zero, Nat.zero_mul, Nat.zero_add]
  omega
/-- the reference's state after the blocks 0 .. k -/
def rst (l : List UInt8) : Nat → List Int
 | 0 => compL h0L (mAt l 0) ((min (0 + 64) l.length : Nat) : Int) (decide (min (0 + 64) l.length = l.length))
 | k + 1 => compL (rst l k) (mAt l (64 * (k + 1))) ((min (64 * (k + 1) + 64) l.length : Nat) : Int) (decide (min (64 * (k + 1) + 64) l.length = l.length))
theorem rst_len (l : List UInt8) : ∀ k, (rst l k).length = 8
 | 0 => by rw [rst, compL, hOut_len]; rfl
 | k + 1 => by rw [rst, compL, hOut_len]; exact rst_len l k
theorem rst_32 (l : List UInt8) : ∀ k, W32 (rst l k)
 | 0 => hOut_32 h0L_32 _ _
 | k + 1 => hOut_32 (rst_32 l k) _ _
theorem rst_prev (l : List UInt8) : ∀ k, (k = 0 ∨ 64 * k < l.length) → rst l k = compL (hAt l k) (mAt l (64 * k)) ((min (64 * k + 64) l.length : Nat) : Int) (decide (min (64 * k + 64) l.length = l.length))
 | 0, _ => rfl
 | k + 1, h => by
  have hk : 64 * (k + 1) < l.length := by omega
  have ih := rst_prev l k (by omega)
  have e : rst l k = hAt l (k + 1) := by
   have h1 : min (64 * k + 64) l.length = 64 * (k + 1) := by omega
   have h2 : decide (64 * (k + 1) = l.length) = false := by simp; omega
   rw [ih, h1, h2, hAt, wUpto_mAt l (64 * k) 64 (by unfold blk; rw [List.length_take, List.length_drop]; omega)]
  rw [rst, e]
theorem rst_last (l : List UInt8) (k : Nat) (h : k = 0 ∨ 64 * k < l.length) (h2 : l.length ≤ 64 * (k + 1)) : rst l k = hFin l := by
 have h1 : min (64 * k + 64) l.length = l.length := by omega
 have h3 : (l.length - 1) / 64 = k := by omega
 rw [rst_prev l k h, h1, hFin, h3, decide_eq_true rfl, wUpto_mAt l (64 * k) (l.length - 64 * k) (by unfold blk; rw [List.length_take, List.length_drop]; omega)]
end Go.Proofs.YtjbjpkhibcnenaaGreatDoor
/- The reference's Sum and Short return what the plain functions sumB and shortL say, for strings of at most 12000 bytes. -/
namespace Go.Proofs.YtjbjpkhibcnenaaGreatDoor
set_option maxRecDepth 100000
set_option maxHeartbeats 2000000
open Go.RowKit
theorem rsum_any (s : ByteArray) (w : World) (hs : s.size ≤ 12000) :
 Calls Tryz.prog 122 #[.string s] w fun e w' => e = .returned (.string ⟨(sumB s.data.toList).toArray⟩) ∧ Below w.heap.size w w' := by
 obtain ⟨i0, hi, hz0, hz1, hz2⟩ := info_parts infoB
 have hlen : s.data.toList.length = s.size := by simp
 have HL := Lib.hid hlen
 clear hlen
 go_enter Tryz.func122, Tryz.ntmps122
 go_wp2_with fail
 refine (rconst_any _).mono ?_
 rintro e w1 ⟨rfl, rfl⟩
 have hr0 : Row32 w.heap.size 8 startL (w.alloc (.cells (u32v startL) 148)) := ⟨_, heap_alloc_new _ _, fun j hj => u32v_get _ _ (by show j < 8; exact hj)⟩
 have hB0 : Below w.heap.size w (w.alloc (.cells (u32v startL) 148)) := (Below.refl _ _).alloc (Nat.le_refl _) _
 generalize w.alloc (.cells (u32v startL) 148) = W1 at *
 have c0 : W1.cell? ⟨w.heap.size, 0, none⟩ = some (.int .u32 1779033703) := hr0.cell 0 (by omega)
 have f0 := hr0.free 0
 have hr1 : Row32 w.heap.size 8 h0L (W1.setCell ⟨w.heap.size, 0, none⟩ (.int .u32 (bits BinOp.xor IntKind.u32 1779033703 16842784))) := hr0.set rfl 0 (by omega) _
 have hB1 : Below w.heap.size w (W1.setCell ⟨w.heap.size, 0, none⟩ (.int .u32 (bits BinOp.xor IntKind.u32 1779033703 16842784))) := hB0.setCell (Nat.le_refl _) _
 have HR1 := Lib.hid hr1
 have HB1 := Lib.hid hB1
 clear hr0 hB0 hr1 hB1
 go_wp2_with fail
 clear c0 f0
 generalize W1.setCell ⟨w.heap.size, 0, none⟩ (.int .u32 (bits BinOp.xor IntKind.u32 1779033703 16842784)) = W2 at *
 refine (rcomp_any h0L w.heap.size 8 s 0 W2 rfl h0L_32 HR1.out (by omega) (by omega)).mono ?_
 rintro e W3 ⟨g0, ch0, rfl, hr, hg, hb⟩
 have HR : Hid (Row32 g0 8 (rst s.data.toList 0) W3) := Lib.hid (by unfold rst; rw [HL.out]; exact hr)
 have HB : Hid (Below w.heap.size w W3) := Lib.hid (HB1.out.trans (hb.mono HB1.out.size))
 clear hr hg hb HR1 HB1
 go_wp2_with fail
 go_loopw [3, 4] (fun hv a wr => ∃ k m g c : Nat, m = 64 * (k + 1) ∧ a = .int .i64 (m : Int) ∧ m ≤ 64 * 200 ∧ hv = .slice (some ⟨g, 0, none⟩) 8 c ∧ Row32 g 8 (rst s.data.toList k) wr ∧ (k = 0 ∨ 64 * k < s.size) ∧ Below w.heap.size w wr) (fun _ a _ => 14000 - (Go.RowKit.intOf a).toNat)
 case atStart => exact ⟨0, 64, g0, ch0, rfl, rfl, by omega, rfl, HR.out, Or.inl rfl, HB.out⟩
 case round =>
  obtain ⟨k, m, g, c, hm, rfl, hm2, rfl, hr, hk, hB⟩ := hrel
  clear HR HB
  have HR := Lib.hid hr
  have HB := Lib.hid hB
  have HM := Lib.hid hm
  have HK := Lib.hid hk
  clear hr hB hm hk
  by_cases hlt : m < s.size
  ·
   go_wp2_with fail
   refine (rcomp_any (rst s.data.toList k) g c s m _ (rst_len _ _) (rst_32 _ _) HR.out (by omega) (by omega)).mono ?_
   rintro e W4 ⟨g1, c1, rfl, hr, hg, hb⟩
   have HR2 : Hid (Row32 g1 8 (rst s.data.toList (k + 1)) W4) := Lib.hid (by
    unfold rst
    rw [HL.out]
    have e := HM.out
    subst e
    exact hr)
   have HB2 : Hid (Below w.heap.size w W4) := Lib.hid (HB.out.trans (hb.mono HB.out.size))
   clear hr hg hb
   go_wp2_with fail
   go_roundw
   case rel => exact ⟨k + 1, m + 64, g1, c1, by have := HM.out; omega, by go_num, by have := HM.out; omega, rfl, HR2.out, Or.inr (by have := HM.out; omega), HB2.out⟩
   case measure => simp [Go.RowKit.intOf]; omega
  ·
   have HF : Hid (Row32 g 8 (hFin s.data.toList) wr) := Lib.hid (by
    rw [← rst_last s.data.toList k (by rw [HL.out]; exact HK.out) (by rw [HL.out]; have := HM.out; omega)]
    exact HR.out)
   clear HR HK HM
   have HSB : Hid (sumB s.data.toList = outB (hFin s.data.toList) 8) := rfl
   have H32 := Lib.hid (hFin_32 s.data.toList)
   generalize hFin s.data.toList = H at *
   obtain ⟨W5, hW5⟩ : ∃ W5 : World, W5 = wr := ⟨_, rfl⟩
   subst hW5
   go_wp2_with fail
   go_loopw [5, 6] (fun v i wr => ∃ j : Nat, j ≤ 8 ∧ i = .int .i64 j ∧ wr.ownsRow W5.heap.size 5 1 v (4 * j) (bytesV (outB H j)) ∧ Below W5.heap.size W5 wr) (fun _ i _ => 8 - (Go.RowKit.intOf i).toNat)
   case atStart => exact ⟨0, by omega, rfl, World.ownsRow_nil _ _ _ _, Below.refl _ _⟩
   case round =>
    obtain ⟨j, hj, rfl, hown, hB5⟩ := hrel
    have HO := Lib.hid hown
    have HB5 := Lib.hid hB5
    clear hown hB5
    by_cases hlt : j < 8
    ·
     have hc := (HF.out.same (HB5.out.block _ HF.out.lt)).cell j hlt
     have hw := H32.out j
     have HOB : Hid (outB H (j + 1) = outB H j ++ wordB (H[j]?.getD 0)) := rfl
     generalize H[j]?.getD 0 = x at *
     obtain ⟨x0, x1⟩ := hw
     go_wp2_with (at_builtin; refine Hid.out ?_)
     refine Lib.hid ?_
     refine wpList_append_own _ rfl _ _ 113 rfl W5.heap.size 5 i0 (.int .u8 0) 1 1 undBs hi hz0 hz1 hz2 rfl (by decide) _ _ _ rfl (HO.out.alloc _) ⟨wr.heap.size, 0, none⟩ 4 4 _ rfl (by rfl) (cells_new _ _ _) (by simp [Value.oneCell']) (by unfold maxLen; omega) (by omega) (by have := HB5.out.size; simpa using Nat.le_succ_of_le this) ?_
     intro v' w1 hown1 hgr1 _
     have HO1 : Hid (w1.ownsRow W5.heap.size 5 1 v' (4 * (j + 1)) (bytesV (outB H (j + 1)))) := by
      refine Lib.hid ?_
      rw [HOB.out, bytesV_append, wordB_V x x0 x1]
      exact hown1
     have HB1 : Hid (Below W5.heap.size W5 w1) := Lib.hid ((HB5.out.alloc HB5.out.size _).grown hgr1 (by have := HB5.out.size; simpa using Nat.le_succ_of_le this) (fun q e => HO.out.block_ge e))
     clear hown1 hgr1 hc
     go_wp2_with fail
     go_roundw
     case rel => exact ⟨j + 1, by omega, by go_num, HO1.out, HB1.out⟩
     case measure => simp [Go.RowKit.intOf]; omega
    ·
     obtain rfl : j = 8 := by omega
     clear hlt hj
     rw [← HSB.out] at HO
     have HBB := Lib.hid (HB.out.trans (HB5.out.mono HB.out.size))
     go_wp2_with (refine wpList_string_own rfl 113 9 5 _ rfl undBs undB undS _ rfl W5.heap.size (4 * 8) (sumB s.data.toList) HO.out ?_)
     go_ret
     exact ⟨rfl, HBB.out⟩
theorem topN_small6 (d : List UInt8) (k : Nat) (hk : k < 7) : topN d k < 281474976710656 :=
 Nat.lt_of_lt_of_le (topN_lt d k) (Nat.le_trans (Nat.pow_le_pow_right (by decide) (show k ≤ 6 by omega)) (by decide))
theorem topN_short (l : List UInt8) : shortL l = topN (sumB l) 7 * 16 + ((sumB l)[7]?.getD 0).toNat / 16 := by
 unfold shortL
 rw [show topN (sumB l) 8 = topN (sumB l) 7 * 256 + ((sumB l)[7]?.getD 0).toNat from rfl]
 omega
theorem rshort_any (s : ByteArray) (w : World) (hs : s.size ≤ 12000) :
 Calls Tryz.prog 90 #[.string s] w fun e w' => e = .returned (.int .i64 (shortL s.data.toList : Nat)) ∧ Below w.heap.size w w' := by
 go_enter Tryz.func90, Tryz.ntmps90
 go_wp2_with fail
 refine (rsum_any _ _ hs).mono ?_
 rintro e w1 ⟨rfl, hb⟩
 have HB := Lib.hid hb
 clear hb
 have HS : Hid (shortL s.data.toList = topN (sumB s.data.toList) 7 * 16 + ((sumB s.data.toList)[7]?.getD 0).toNat / 16) := Lib.hid (topN_short _)
 have hX : (⟨(sumB s.data.toList).toArray⟩ : ByteArray).size = 32 := sumB_len _
 have HX : Hid ((⟨(sumB s.data.toList).toArray⟩ : ByteArray).data.toList = sumB s.data.toList) := rfl
 generalize (⟨(sumB s.data.toList).toArray⟩ : ByteArray) = X at *
 rw [← HX.out] at HS
 clear HX
 have hX1 : 32 ≤ X.size := by omega
 have hX2 : X.size ≤ 32 := by omega
 clear hX
 go_wp2_with fail
 go_loop [4, 5] (fun n i => ∃ k : Nat, k ≤ 7 ∧ i = .int .i64 k ∧ n = .int .i64 (topN X.data.toList k : Nat)) (fun _ i => 7 - (Go.RowKit.intOf i).toNat)
 case atStart => exact ⟨0, by omega, rfl, rfl⟩
 case round =>
  obtain ⟨k, hk, rfl, rfl⟩ := hrel
  by_cases hlt : k < 7
  ·
   have hlt2 : k < X.size := by omega
   have hT : topN X.data.toList (k + 1) = topN X.data.toList k * 256 + X[k].toNat := by
    simp only [topN]
    congr 2
    rw [List.getElem?_eq_getElem (by simpa using hlt2)]
    rfl
   have hn := topN_small6 X.data.toList k (by omega)
   have HT := Lib.hid hT
   clear hT
   generalize topN X.data.toList k = n at *
   have hb := (X[k]).toNat_lt
   go_wp2_with fail
   go_round
   case rel => exact ⟨k + 1, by omega, by go_num, by rw [HT.out]; go_num⟩
   case measure => simp [Go.RowKit.intOf]; omega
  ·
   obtain rfl : k = 7 := by omega
   clear hlt hk
   rw [show ((7 : Nat) : Int) = 7 from rfl]
   have hn := topN_small X.data.toList 7 (by omega)
   have h7 : X.data.toList[7]?.getD 0 = X[7] := by
    rw [List.getElem?_eq_getElem (show 7 < X.data.toList.length by simp; omega)]
    rfl
   rw [h7] at HS
   clear h7
   have hb := (X[7]).toNat_lt
   generalize topN X.data.toList 7 = n at *
   go_wp2_with fail
   have HE : ((n : Int) * 16 + (X[7].toNat : Int) / 16) = ((n * 16 + X[7].toNat / 16 : Nat) : Int) := by omega
   go_ret
   exact ⟨by rw [HS.out]; exact congrArg (fun z => Ending.returned (Value.int .i64 z)) HE, HB.out⟩
end Go.Proofs.YtjbjpkhibcnenaaGreatDoor
/- bourneref05: Challenge, Element, Ranges. -/
namespace Go.Proofs.YtjbjpkhibcnenaaGreatDoor
set_option maxRecDepth 100000
set_option maxHeartbeats 2000000
open Go.RowKit
theorem cat_bytes (a b : ByteArray) : (a ++ b).data.toList = a.data.toList ++ b.data.toList := by simp
theorem rchal_any (r p : Int) (c m : ByteArray) (w : World) (hr : I64 r) (hp : I64 p) (hc : c.size ≤ 2000) (hm : m.size ≤ 2000) :
 Calls Tryz.prog 126 #[.int .i64 r, .int .i64 p, .string c, .string m] w fun e w' => e = .returned (.int .i64 (chalN r p c.data.toList m.data.toList : Nat)) ∧ Below w.heap.size w w' := by
 obtain ⟨t1, ht1⟩ : ∃ t : ByteArray, t = ⟨(textL (ByteArray.mk #[115, 105, 103, 110]).data.toList).toArray⟩ := ⟨_, rfl⟩
 obtain ⟨t2, ht2⟩ : ∃ t : ByteArray, t = ⟨(numL r).toArray⟩ := ⟨_, rfl⟩
 obtain ⟨t3, ht3⟩ : ∃ t : ByteArray, t = ⟨(numL p).toArray⟩ := ⟨_, rfl⟩
 obtain ⟨t4, ht4⟩ : ∃ t : ByteArray, t = ⟨(textL c.data.toList).toArray⟩ := ⟨_, rfl⟩
 obtain ⟨t5, ht5⟩ : ∃ t : ByteArray, t = ⟨(textL m.data.toList).toArray⟩ := ⟨_, rfl⟩
 have l1 : t1.size ≤ 10 := by
  have h := textL_len signB
  have h2 : t1.data.toList.length ≤ 10 := by rw [ht1]; show (textL signB).length ≤ 10; have b1 : signB.length = 4 := rfl; omega
  exact h2
 have l2 : t2.size ≤ 9 := by
  have h := numL_len hr
  have h2 : t2.data.toList.length ≤ 9 := by rw [ht2]; exact h
  exact h2
 have l3 : t3.size ≤ 9 := by
  have h := numL_len hp
  have h2 : t3.data.toList.length ≤ 9 := by rw [ht3]; exact h
  exact h2
 have l4 : t4.size ≤ 4002 := by
  have h := textL_len c.data.toList
  have b4 : c.data.toList.length ≤ 2000 := hc
  have h2 : t4.data.toList.length ≤ 4002 := by rw [ht4]; show (textL c.data.toList).length ≤ 4002; omega
  exact h2
 have l5 : t5.size ≤ 4002 := by
  have h := textL_len m.data.toList
  have b4 : m.data.toList.length ≤ 2000 := hm
  have h2 : t5.data.toList.length ≤ 4002 := by rw [ht5]; show (textL m.data.toList).length ≤ 4002; omega
  exact h2
 have HR := Lib.hid hr
 have HP := Lib.hid hp
 have HT1 := Lib.hid ht1
 have HT2 := Lib.hid ht2
 have HT3 := Lib.hid ht3
 have HT4 := Lib.hid ht4
 have HT5 := Lib.hid ht5
 have HC := Lib.hid hc
 have HM := Lib.hid hm
 have HF : Hid ((t1 ++ t2 ++ t3 ++ t4 ++ t5).data.toList = chalB r p c.data.toList m.data.toList) := Lib.hid (by
  rw [cat_bytes, cat_bytes, cat_bytes, cat_bytes, ht1, ht2, ht3, ht4, ht5]
  simp [chalB, signB])
 have HLn : Hid ((t1 ++ t2 ++ t3 ++ t4 ++ t5).size ≤ 12000) := Lib.hid (by
  rw [ByteArray.size_append, ByteArray.size_append, ByteArray.size_append, ByteArray.size_append]; omega)
 have n1 : ¬ 9223372036854775807 < t1.size + t2.size := by omega
 have n2 : ¬ 9223372036854775807 < t1.size + t2.size + t3.size := by omega
 have n3 : ¬ 9223372036854775807 < t1.size + t2.size + t3.size + t4.size := by omega
 have n4 : ¬ 9223372036854775807 < t1.size + t2.size + t3.size + t4.size + t5.size := by omega
 clear hr hp ht1 ht2 ht3 ht4 ht5 hc hm l1 l2 l3 l4 l5
 obtain ⟨z, hz⟩ : ∃ z, z = shortL (chalB r p c.data.toList m.data.toList) := ⟨_, rfl⟩
 have HZ := Lib.hid hz
 have HE : Hid (chalN r p c.data.toList m.data.toList = z % gQ) := Lib.hid (by unfold chalN; rw [hz])
 clear hz
 go_enter Tryz.func126, Tryz.ntmps126
 go_wp2_with fail
 refine (rtext_any ⟨#[115, 105, 103, 110]⟩ _ (by decide)).mono ?_
 rintro e w1 ⟨rfl, hb⟩
 rw [← HT1.out]
 have HB1 := Lib.hid hb
 clear hb
 go_wp2_with fail
 refine (rnum_any r _ HR.out).mono ?_
 rintro e w2 ⟨rfl, hb⟩
 rw [← HT2.out]
 have HB2 := Lib.hid (HB1.out.trans (hb.mono HB1.out.size))
 clear hb
 go_wp2_with fail
 refine (rnum_any p _ HP.out).mono ?_
 rintro e w3 ⟨rfl, hb⟩
 rw [← HT3.out]
 have HB3 := Lib.hid (HB2.out.trans (hb.mono HB2.out.size))
 clear hb
 go_wp2_with fail
 refine (rtext_any c _ (by have := HC.out; omega)).mono ?_
 rintro e w4 ⟨rfl, hb⟩
 rw [← HT4.out]
 have HB4 := Lib.hid (HB3.out.trans (hb.mono HB3.out.size))
 clear hb
 go_wp2_with fail
 refine (rtext_any m _ (by have := HM.out; omega)).mono ?_
 rintro e w5 ⟨rfl, hb⟩
 rw [← HT5.out]
 have HB5 := Lib.hid (HB4.out.trans (hb.mono HB4.out.size))
 clear hb
 go_wp2_with fail
 refine (rshort_any (t1 ++ t2 ++ t3 ++ t4 ++ t5) _ HLn.out).mono ?_
 rintro e w7 ⟨rfl, hb⟩
 rw [HF.out, ← HZ.out]
 have HB7 := Lib.hid (HB5.out.trans (hb.mono HB5.out.size))
 clear hb
 obtain ⟨y, hy⟩ : ∃ y, y = z % gQ := ⟨_, rfl⟩
 have FY : (z : Int) % 1152921504606845789 = (y : Int) := by rw [hy]; exact (Int.natCast_emod z gQ).symm
 have HY := Lib.hid hy
 have hzb : z < 1152921504606846976 := by rw [HZ.out]; exact shortL_lt _
 clear hy
 go_wp2_with fail
 go_ret
 refine ⟨?_, HB7.out⟩
 rw [HE.out, ← HY.out]
 first | rfl | exact congrArg (fun v => Ending.returned (Value.int .i64 v)) FY
/-- the element of a signature in range -/
theorem relem_any (p E S : Int) (w : World) (hI : InG p) (hE : 0 ≤ E ∧ E < 1152921504606845789) (hS : 0 ≤ S ∧ S < 1152921504606845789) :
 Calls Tryz.prog 127 #[.int .i64 p, .agg #[.int .i64 E, .int .i64 S]] w fun e w' => e = .returned (.int .i64 (elemN p E S : Nat)) ∧ Below w.heap.size w w' := by
 have HZ := Lib.hid (heap_alloc_new w (.cells #[.int .i64 E, .int .i64 S] 36))
 have HB := Lib.hid ((Below.refl w.heap.size w).alloc (Nat.le_refl _) (.cells #[.int .i64 E, .int .i64 S] 36))
 have hp : I64 p := ⟨by have := hI.1; omega, by have := hI.2.1; omega⟩
 obtain ⟨J, hJ⟩ : ∃ J : Int → Int → Int, J = fun a e => ((resN a gP ^ e.toNat % gP : Nat) : Int) := ⟨_, rfl⟩
 obtain ⟨M, hM⟩ : ∃ M : Int → Int → Int, M = fun a b => ((mulN a b gP : Nat) : Int) := ⟨_, rfl⟩
 obtain ⟨q, hq⟩ : ∃ q : Int, q = 1152921504606845789 - E := ⟨_, rfl⟩
 have HJ : Hid (∀ a e n, I64 a ∧ 0 ≤ e ∧ e ≤ 9223372036854775807 → Calls Tryz.prog 121 #[.int .i64 a, .int .i64 e] n fun e' w' => e' = .returned (.int .i64 (J a e)) ∧ ∃ k, w' = n.drewN k) := Lib.hid (fun a e n h => by
  rw [hJ]
  exact (rexp_any a e n h.1 h.2).mono fun e' w' h2 => ⟨h2.1, 0, h2.2⟩)
 have HU : Hid (∀ a b n, I64 a ∧ I64 b → Calls Tryz.prog 148 #[.int .i64 a, .int .i64 b] n fun e' w' => e' = .returned (.int .i64 (M a b)) ∧ ∃ k, w' = n.drewN k) := Lib.hid (fun a b n h => by
  rw [hM]
  exact (rmul_any a b n h.1 h.2).mono fun e' w' h2 => ⟨h2.1, 0, h2.2⟩)
 have e1 : J 4 S = ((4 ^ S.toNat % gP : Nat) : Int) := by rw [hJ]; show ((resN 4 gP ^ S.toNat % gP : Nat) : Int) = _; rw [res4]
 have e2 : J p q = ((p.toNat ^ (gQ - E.toNat) % gP : Nat) : Int) := by
  rw [hJ]
  show ((resN p gP ^ q.toNat % gP : Nat) : Int) = _
  rw [resN_in hI.1 hI.2.1]
  have e : q.toNat = gQ - E.toNat := by show q.toNat = 1152921504606845789 - E.toNat; omega
  rw [e]
 have e3 : M (J 4 S) (J p q) = ((elemN p E S : Nat) : Int) := by
  rw [e1, e2, hM]
  show ((mulN _ _ gP : Nat) : Int) = _
  rw [mulN_nat (m := gP) (lt_p _) (lt_p _)]
  rfl
 have B1 : Hid (I64 (4 : Int) ∧ 0 ≤ S ∧ S ≤ 9223372036854775807) := Lib.hid ⟨⟨by omega, by omega⟩, by omega, by omega⟩
 have B2 : Hid (I64 p ∧ 0 ≤ q ∧ q ≤ 9223372036854775807) := Lib.hid ⟨hp, by omega, by omega⟩
 have B3 : Hid (I64 (J 4 S) ∧ I64 (J p q)) := Lib.hid (by
  rw [e1, e2]
  have a1 : 4 ^ S.toNat % gP < 2305843009213691579 := lt_p _
  have a2 : p.toNat ^ (gQ - E.toNat) % gP < 2305843009213691579 := lt_p _
  generalize 4 ^ S.toNat % gP = z1 at *
  generalize p.toNat ^ (gQ - E.toNat) % gP = z2 at *
  exact ⟨⟨by omega, by omega⟩, ⟨by omega, by omega⟩⟩)
 have H3 := Lib.hid e3
 have hq2 : 1152921504606845789 - E = q := hq.symm
 have hqb : 0 ≤ q ∧ q ≤ 1152921504606845789 := ⟨by omega, by omega⟩
 rw [← e3]
 clear e1 e2 e3 hJ hM hI hp hq
 go_enter Tryz.func127, Tryz.ntmps127
 go_upto_region 1 with fail
 generalize w.alloc (.cells #[.int .i64 E, .int .i64 S] 36) = w1 at *
 have c0 : w1.cell? ⟨w.heap.size, 0, none⟩ = some (.int .i64 E) := (cell_of_row _ _ _ _ _ _ HZ.out).trans rfl
 have c1 : w1.cell? ⟨w.heap.size, 1, none⟩ = some (.int .i64 S) := (cell_of_row _ _ _ _ _ _ HZ.out).trans rfl
 go_quiet ((first | (go_at_call 121; exact Calls.quiet_of (HJ.out _ _ _ (by first | exact B1.out | exact B2.out))) | (go_at_call 148; exact Calls.quiet_of (HU.out _ _ _ B3.out))))
 go_wp2_with fail
 go_ret
 exact ⟨rfl, below_drewN HB.out⟩
end Go.Proofs.YtjbjpkhibcnenaaGreatDoor
