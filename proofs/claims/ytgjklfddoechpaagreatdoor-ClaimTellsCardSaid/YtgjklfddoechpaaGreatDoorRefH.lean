/- The reference's Sum and Short return what the plain functions sumB and shortL say, for strings of at most 12000 bytes. -/
import Derived.Test.YtgjklfddoechpaaGreatDoorRefF
import Derived.Test.YtgjklfddoechpaaGreatDoorRefG
namespace Go.Proofs.YtgjklfddoechpaaGreatDoor
open Go.RowKit
set_option maxRecDepth 100000 in
set_option maxHeartbeats 2000000 in
theorem rsum_any (s : ByteArray) (w : World) (hs : s.size ≤ 12000) :
    Calls Tryz.prog 53 #[.string s] w fun e w' => e = .returned (.string ⟨(sumB s.data.toList).toArray⟩) ∧ Below w.heap.size w w' := by
  obtain ⟨i0, hi, hz0, hz1, hz2⟩ := info_parts infoB
  have hlen : s.data.toList.length = s.size := by simp
  have HL := Lib.hid hlen
  clear hlen
  go_enter Tryz.func53, Tryz.ntmps53
  go_wp2_with fail
  refine (rconst_any _).mono ?_
  rintro e w1 ⟨rfl, rfl⟩
  have hr0 : Row32 w.heap.size 8 startL (w.alloc (.cells (u32v startL) 129)) := ⟨_, heap_alloc_new _ _, fun j hj => u32v_get _ _ (by show j < 8; exact hj)⟩
  have hB0 : Below w.heap.size w (w.alloc (.cells (u32v startL) 129)) := (Below.refl _ _).alloc (Nat.le_refl _) _
  generalize w.alloc (.cells (u32v startL) 129) = W1 at *
  have c0 : W1.cell? ⟨w.heap.size, 0, none⟩ = some (.int .u32 1779033703) := hr0.cell 0 (by omega)
  have f0 := hr0.free 0
  have hr1 : Row32 w.heap.size 8 h0L (W1.setCell ⟨w.heap.size, 0, none⟩ (.int .u32 (bits BinOp.xor IntKind.u32 1779033703 16842784))) := hr0.set rfl 0 (by omega) _
  have hB1 : Below w.heap.size w (W1.setCell ⟨w.heap.size, 0, none⟩ (.int .u32 (bits BinOp.xor IntKind.u32 1779033703 16842784))) := hB0.setCell (Nat.le_refl _) _
  have HR1 := Lib.hid hr1
  have HB1 := Lib.hid hB1
  clear hr0 hB0 hr1 hB1
  go_wp2_with fail
  clear c0 f0
  generalize W1.setCell ⟨w.heap.size, 0, none⟩ (.int .u32 (bits BinOp.xor IntKind.u32 1779033703 16842784)) = W2 at *
  refine (rcomp_any h0L w.heap.size 8 s 0 W2 rfl h0L_32 HR1.out (by omega) (by omega)).mono ?_
  rintro e W3 ⟨g0, ch0, rfl, hr, hg, hb⟩
  have HR : Hid (Row32 g0 8 (rst s.data.toList 0) W3) := Lib.hid (by unfold rst; rw [HL.out]; exact hr)
  have HB : Hid (Below w.heap.size w W3) := Lib.hid (HB1.out.trans (hb.mono HB1.out.size))
  clear hr hg hb HR1 HB1
  go_wp2_with fail
  go_loopw [3, 4] (fun hv a wr => ∃ k m g c : Nat, m = 64 * (k + 1) ∧ a = .int .i64 (m : Int) ∧ m ≤ 64 * 200 ∧ hv = .slice (some ⟨g, 0, none⟩) 8 c ∧ Row32 g 8 (rst s.data.toList k) wr ∧ (k = 0 ∨ 64 * k < s.size) ∧ Below w.heap.size w wr) (fun _ a _ => 14000 - (intOf a).toNat)
  case atStart => exact ⟨0, 64, g0, ch0, rfl, rfl, by omega, rfl, HR.out, Or.inl rfl, HB.out⟩
  case round =>
    obtain ⟨k, m, g, c, hm, rfl, hm2, rfl, hr, hk, hB⟩ := hrel
    clear HR HB
    have HR := Lib.hid hr
    have HB := Lib.hid hB
    have HM := Lib.hid hm
    have HK := Lib.hid hk
    clear hr hB hm hk
    by_cases hlt : m < s.size
    · go_wp2_with fail
      refine (rcomp_any (rst s.data.toList k) g c s m _ (rst_len _ _) (rst_32 _ _) HR.out (by omega) (by omega)).mono ?_
      rintro e W4 ⟨g1, c1, rfl, hr, hg, hb⟩
      have HR2 : Hid (Row32 g1 8 (rst s.data.toList (k + 1)) W4) := Lib.hid (by
        unfold rst
        rw [HL.out]
        have e := HM.out
        subst e
        exact hr)
      have HB2 : Hid (Below w.heap.size w W4) := Lib.hid (HB.out.trans (hb.mono HB.out.size))
      clear hr hg hb
      go_wp2_with fail
      go_roundw
      case rel => exact ⟨k + 1, m + 64, g1, c1, by have := HM.out; omega, by go_num, by have := HM.out; omega, rfl, HR2.out, Or.inr (by have := HM.out; omega), HB2.out⟩
      case measure => simp [intOf]; omega
    · have HF : Hid (Row32 g 8 (hFin s.data.toList) wr) := Lib.hid (by
        rw [← rst_last s.data.toList k (by rw [HL.out]; exact HK.out) (by rw [HL.out]; have := HM.out; omega)]
        exact HR.out)
      clear HR HK HM
      have HSB : Hid (sumB s.data.toList = outB (hFin s.data.toList) 8) := rfl
      have H32 := Lib.hid (hFin_32 s.data.toList)
      generalize hFin s.data.toList = H at *
      obtain ⟨W5, hW5⟩ : ∃ W5 : World, W5 = wr := ⟨_, rfl⟩
      subst hW5
      go_wp2_with fail
      go_loopw [5, 6] (fun v i wr => ∃ j : Nat, j ≤ 8 ∧ i = .int .i64 j ∧ wr.ownsRow W5.heap.size 5 1 v (4 * j) (bytesV (outB H j)) ∧ Below W5.heap.size W5 wr) (fun _ i _ => 8 - (intOf i).toNat)
      case atStart => exact ⟨0, by omega, rfl, World.ownsRow_nil _ _ _ _, Below.refl _ _⟩
      case round =>
        obtain ⟨j, hj, rfl, hown, hB5⟩ := hrel
        have HO := Lib.hid hown
        have HB5 := Lib.hid hB5
        clear hown hB5
        by_cases hlt : j < 8
        · have hc := (HF.out.same (HB5.out.block _ HF.out.lt)).cell j hlt
          have hw := H32.out j
          have HOB : Hid (outB H (j + 1) = outB H j ++ wordB (H[j]?.getD 0)) := rfl
          generalize H[j]?.getD 0 = x at *
          obtain ⟨x0, x1⟩ := hw
          go_wp2_with (at_builtin; refine Hid.out ?_)
          refine Lib.hid ?_
          refine wpList_append_own _ rfl _ _ 115 rfl W5.heap.size 5 i0 (.int .u8 0) 1 1 undBs hi hz0 hz1 hz2 rfl (by decide) _ _ _ rfl (HO.out.alloc _) ⟨wr.heap.size, 0, none⟩ 4 4 _ rfl (by rfl) (cells_new _ _ _) (by simp [Value.oneCell']) (by unfold maxLen; omega) (by omega) (by have := HB5.out.size; simpa using Nat.le_succ_of_le this) ?_
          intro v' w1 hown1 hgr1 _
          have HO1 : Hid (w1.ownsRow W5.heap.size 5 1 v' (4 * (j + 1)) (bytesV (outB H (j + 1)))) := by
            refine Lib.hid ?_
            rw [HOB.out, bytesV_append, wordB_V x x0 x1]
            exact hown1
          have HB1 : Hid (Below W5.heap.size W5 w1) := Lib.hid ((HB5.out.alloc HB5.out.size _).grown hgr1 (by have := HB5.out.size; simpa using Nat.le_succ_of_le this) (fun q e => HO.out.block_ge e))
          clear hown1 hgr1 hc
          go_wp2_with fail
          go_roundw
          case rel => exact ⟨j + 1, by omega, by go_num, HO1.out, HB1.out⟩
          case measure => simp [intOf]; omega
        · obtain rfl : j = 8 := by omega
          clear hlt hj
          rw [← HSB.out] at HO
          have HBB := Lib.hid (HB.out.trans (HB5.out.mono HB.out.size))
          go_wp2_with (refine wpList_string_own rfl 115 9 5 _ rfl undBs undB undS _ rfl W5.heap.size (4 * 8) (sumB s.data.toList) HO.out ?_)
          go_ret
          exact ⟨rfl, HBB.out⟩
theorem topN_small6 (d : List UInt8) (k : Nat) (hk : k < 7) : topN d k < 281474976710656 :=
  Nat.lt_of_lt_of_le (topN_lt d k) (Nat.le_trans (Nat.pow_le_pow_right (by decide) (show k ≤ 6 by omega)) (by decide))
theorem topN_short (l : List UInt8) : shortL l = topN (sumB l) 7 * 16 + ((sumB l)[7]?.getD 0).toNat / 16 := by
  unfold shortL
  rw [show topN (sumB l) 8 = topN (sumB l) 7 * 256 + ((sumB l)[7]?.getD 0).toNat from rfl]
  omega
set_option maxRecDepth 100000 in
set_option maxHeartbeats 1000000 in
theorem rshort_any (s : ByteArray) (w : World) (hs : s.size ≤ 12000) :
    Calls Tryz.prog 70 #[.string s] w fun e w' => e = .returned (.int .i64 (shortL s.data.toList : Nat)) ∧ Below w.heap.size w w' := by
  go_enter Tryz.func70, Tryz.ntmps70
  go_wp2_with fail
  refine (rsum_any _ _ hs).mono ?_
  rintro e w1 ⟨rfl, hb⟩
  have HB := Lib.hid hb
  clear hb
  have HS : Hid (shortL s.data.toList = topN (sumB s.data.toList) 7 * 16 + ((sumB s.data.toList)[7]?.getD 0).toNat / 16) := Lib.hid (topN_short _)
  have hX : (⟨(sumB s.data.toList).toArray⟩ : ByteArray).size = 32 := sumB_len _
  have HX : Hid ((⟨(sumB s.data.toList).toArray⟩ : ByteArray).data.toList = sumB s.data.toList) := rfl
  generalize (⟨(sumB s.data.toList).toArray⟩ : ByteArray) = X at *
  rw [← HX.out] at HS
  clear HX
  have hX1 : 32 ≤ X.size := by omega
  have hX2 : X.size ≤ 32 := by omega
  clear hX
  go_wp2_with fail
  go_loop [4, 5] (fun n i => ∃ k : Nat, k ≤ 7 ∧ i = .int .i64 k ∧ n = .int .i64 (topN X.data.toList k : Nat)) (fun _ i => 7 - (intOf i).toNat)
  case atStart => exact ⟨0, by omega, rfl, rfl⟩
  case round =>
    obtain ⟨k, hk, rfl, rfl⟩ := hrel
    by_cases hlt : k < 7
    · have hlt2 : k < X.size := by omega
      have hT : topN X.data.toList (k + 1) = topN X.data.toList k * 256 + X[k].toNat := by
        simp only [topN]
        congr 2
        rw [List.getElem?_eq_getElem (by simpa using hlt2)]
        rfl
      have hn := topN_small6 X.data.toList k (by omega)
      have HT := Lib.hid hT
      clear hT
      generalize topN X.data.toList k = n at *
      have hb := (X[k]).toNat_lt
      go_wp2_with fail
      go_round
      case rel => exact ⟨k + 1, by omega, by go_num, by rw [HT.out]; go_num⟩
      case measure => simp [intOf]; omega
    · obtain rfl : k = 7 := by omega
      clear hlt hk
      rw [show ((7 : Nat) : Int) = 7 from rfl]
      have hn := topN_small X.data.toList 7 (by omega)
      have h7 : X.data.toList[7]?.getD 0 = X[7] := by
        rw [List.getElem?_eq_getElem (show 7 < X.data.toList.length by simp; omega)]
        rfl
      rw [h7] at HS
      clear h7
      have hb := (X[7]).toNat_lt
      generalize topN X.data.toList 7 = n at *
      go_wp2_with fail
      have HE : ((n : Int) * 16 + (X[7].toNat : Int) / 16) = ((n * 16 + X[7].toNat / 16 : Nat) : Int) := by omega
      go_ret
      exact ⟨by rw [HS.out]; exact congrArg (fun z => Ending.returned (Value.int .i64 z)) HE, HB.out⟩
end Go.Proofs.YtgjklfddoechpaaGreatDoor
