/- bournelaw29.CastOrders returns true. -/
import Derived.Test.YtleiiedacachjaaKSmall
import Derived.Test.YtleiiedacachjaaKFew
import Derived.Test.YtleiiedacachjaaKRows
import Derived.Test.YtleiiedacachjaaKOrdL
namespace Go.Proofs.Ytleiiedacachjaa
open Go.RowKit
theorem carg_four {w : World} {b : Nat} {x y z u : Int} {t : TypeId} (h : w.heap[b]? = some (.cells #[.int .i64 x, .int .i64 y, .int .i64 z, .int .i64 u] t (0, 0))) : CArg (Value.int .i64) (.slice (some ⟨b, 0, none⟩) 4 4) [x, y, z, u] w :=
  ⟨some ⟨b, 0, none⟩, 4, rfl, fun j v hj => ⟨⟨b, 0, none⟩, rfl, by rw [Addr.add_mid]; exact blk_lt h, by
    rw [Addr.add_mid, Nat.zero_add]
    match j, hj with
    | 0, hj => cases hj; exact rowN h 0 _ rfl
    | 1, hj => cases hj; exact rowN h 1 _ rfl
    | 2, hj => cases hj; exact rowN h 2 _ rfl
    | 3, hj => cases hj; exact rowN h 3 _ rfl⟩⟩
theorem news_two {w : World} {b4 : Nat} {a b : NewsV} {ua ub : Value} (h4 : w.heap[b4]? = some (.cells #[.int .i64 a.kind, .int .i64 a.known, .int .i64 a.cast.id, .int .i64 a.cast.src, ua, .int .i64 b.kind, .int .i64 b.known, .int .i64 b.cast.id, .int .i64 b.cast.src, ub] 29 (0, 0)))
    (ha : LArg (RList RSpan 2) 1 ua a.cast.rain w) (hb : LArg (RList RSpan 2) 1 ub b.cast.rain w) : NewsS [a, b] [ua, ub] (some ⟨b4, 0, none⟩) w :=
  ⟨rfl, fun i x hx => by
    match i, hx with
    | 0, hx =>
      cases hx
      refine ⟨_, b4, 0, rfl, rfl, blk_lt h4, (fun j u hu => ?_), ha⟩
      match j, hu with
      | 0, hu => cases hu; exact rowN h4 0 _ rfl
      | 1, hu => cases hu; exact rowN h4 1 _ rfl
      | 2, hu => cases hu; exact rowN h4 2 _ rfl
      | 3, hu => cases hu; exact rowN h4 3 _ rfl
      | 4, hu => cases hu; exact rowN h4 4 _ rfl
    | 1, hx =>
      cases hx
      refine ⟨_, b4, 0, rfl, rfl, blk_lt h4, (fun j u hu => ?_), hb⟩
      match j, hu with
      | 0, hu => cases hu; exact rowN h4 5 _ rfl
      | 1, hu => cases hu; exact rowN h4 6 _ rfl
      | 2, hu => cases hu; exact rowN h4 7 _ rfl
      | 3, hu => cases hu; exact rowN h4 8 _ rfl
      | 4, hu => cases hu; exact rowN h4 9 _ rfl⟩
set_option maxRecDepth 100000 in
set_option maxHeartbeats 8000000 in
theorem orders_core (a b : NewsV) (a0 b0 : Option Addr) (qa qb : Nat) (w : World) (ha : LArg (RList RSpan 2) 1 (.slice a0 a.cast.rain.length qa) a.cast.rain w) (hb : LArg (RList RSpan 2) 1 (.slice b0 b.cast.rain.length qb) b.cast.rain w) (na : NewsI a) (nb : NewsI b) :
    Calls Try.prog 5 #[.agg #[.int .i64 a.kind, .int .i64 a.known, .int .i64 a.cast.id, .int .i64 a.cast.src, .slice a0 a.cast.rain.length qa], .agg #[.int .i64 b.kind, .int .i64 b.known, .int .i64 b.cast.id, .int .i64 b.cast.src, .slice b0 b.cast.rain.length qb]] w fun e w' => e = .returned (.bool true) ∧ Below w.heap.size w w' := by
  obtain ⟨r0, r1, rb⟩ := two_rowsK (w := w) (A := .cells #[.int .i64 a.kind, .int .i64 a.known, .int .i64 a.cast.id, .int .i64 a.cast.src, .slice a0 a.cast.rain.length qa] 29) (B := .cells #[.int .i64 b.kind, .int .i64 b.known, .int .i64 b.cast.id, .int .i64 b.cast.src, .slice b0 b.cast.rain.length qb] 29)
  have HRA := Lib.hid ha
  have HRB := Lib.hid hb
  have HNA := Lib.hid na
  have HNB := Lib.hid nb
  clear ha hb na nb
  go_enter Try.func5, Try.ntmps5
  go_upto_region 1 with fail
  generalize (w.alloc (.cells #[.int .i64 a.kind, .int .i64 a.known, .int .i64 a.cast.id, .int .i64 a.cast.src, .slice a0 a.cast.rain.length qa] 29)).alloc (.cells #[.int .i64 b.kind, .int .i64 b.known, .int .i64 b.cast.id, .int .i64 b.cast.src, .slice b0 b.cast.rain.length qb] 29) = w0 at *
  have Ah0 := Lib.hid r0
  have Bh0 := Lib.hid r1
  have HB0 := Lib.hid rb
  clear r0 r1 rb
  go_wp2_with fail
  refine (small_any _).mono ?_
  rintro e w1 ⟨rfl, hb⟩
  have HB1 := Lib.hid (HB0.out.trans (hb.mono HB0.out.size))
  have Ah1 := Lib.hid (blk_below Ah0.out hb (blk_lt Ah0.out))
  have Bh1 := Lib.hid (blk_below Bh0.out hb (blk_lt Bh0.out))
  clear HB0 Ah0 Bh0
  clear hb
  go_wp2_with (first | (refine wpList_load_rowW (by first | (go_simp; done) | rfl) 29 _ rfl _ rfl 29 _ _ _ Ah1.out undNw rfl infoNw ?_) | (refine wpList_load_rowW (by first | (go_simp; done) | rfl) 29 _ rfl _ rfl 29 _ _ _ Bh1.out undNw rfl infoNw ?_))
  have HTn := Lib.hid (heap_alloc_new w1 (.cells #[.int .i64 a.kind, .int .i64 a.known, .int .i64 a.cast.id, .int .i64 a.cast.src, .slice a0 a.cast.rain.length qa, .int .i64 b.kind, .int .i64 b.known, .int .i64 b.cast.id, .int .i64 b.cast.src, .slice b0 b.cast.rain.length qb] 29))
  have Ah2 := Lib.hid (blk_below Ah1.out ((Below.refl w1.heap.size w1).alloc (Nat.le_refl _) (.cells #[.int .i64 a.kind, .int .i64 a.known, .int .i64 a.cast.id, .int .i64 a.cast.src, .slice a0 a.cast.rain.length qa, .int .i64 b.kind, .int .i64 b.known, .int .i64 b.cast.id, .int .i64 b.cast.src, .slice b0 b.cast.rain.length qb] 29)) (blk_lt Ah1.out))
  have Bh2 := Lib.hid (blk_below Bh1.out ((Below.refl w1.heap.size w1).alloc (Nat.le_refl _) (.cells #[.int .i64 a.kind, .int .i64 a.known, .int .i64 a.cast.id, .int .i64 a.cast.src, .slice a0 a.cast.rain.length qa, .int .i64 b.kind, .int .i64 b.known, .int .i64 b.cast.id, .int .i64 b.cast.src, .slice b0 b.cast.rain.length qb] 29)) (blk_lt Bh1.out))
  have HB2 := Lib.hid (HB1.out.alloc HB1.out.size (.cells #[.int .i64 a.kind, .int .i64 a.known, .int .i64 a.cast.id, .int .i64 a.cast.src, .slice a0 a.cast.rain.length qa, .int .i64 b.kind, .int .i64 b.known, .int .i64 b.cast.id, .int .i64 b.cast.src, .slice b0 b.cast.rain.length qb] 29))
  clear HB1 Ah1 Bh1
  generalize w1.alloc (.cells #[.int .i64 a.kind, .int .i64 a.known, .int .i64 a.cast.id, .int .i64 a.cast.src, .slice a0 a.cast.rain.length qa, .int .i64 b.kind, .int .i64 b.known, .int .i64 b.cast.id, .int .i64 b.cast.src, .slice b0 b.cast.rain.length qb] 29) = w2 at *
  generalize w1.heap.size = bHTn at *
  refine (few_any [a, b] [.slice a0 a.cast.rain.length qa, .slice b0 b.cast.rain.length qb] (some ⟨bHTn, 0, none⟩) 2 _ (news_two HTn.out (HRA.out.below (stays_list stays_Span 2) HB2.out) (HRB.out.below (stays_list stays_Span 2) HB2.out)) (by show (2 : Nat) ≤ _; omega)).mono ?_
  rintro e w3 ⟨rfl, hb⟩
  have HB3 := Lib.hid (HB2.out.trans (hb.mono HB2.out.size))
  have Ah3 := Lib.hid (blk_below Ah2.out hb (blk_lt Ah2.out))
  have Bh3 := Lib.hid (blk_below Bh2.out hb (blk_lt Bh2.out))
  clear HB2 Ah2 Bh2
  clear hb
  clear HTn
  cases hF : fewB [a, b]
  · go_wp2_with fail
    go_ret
    exact ⟨rfl, HB3.out⟩
  have HFA := Lib.hid ((fewB_iff.1 hF).2 a (by simp))
  have HFB := Lib.hid ((fewB_iff.1 hF).2 b (by simp))
  clear hF
  have cA0 := rowN Ah3.out 0 (.int .i64 a.kind) rfl
  have cA1 := rowN Ah3.out 1 (.int .i64 a.known) rfl
  have cA2 := rowN Ah3.out 2 (.int .i64 a.cast.id) rfl
  have cA3 := rowN Ah3.out 3 (.int .i64 a.cast.src) rfl
  go_wp2_with fail
  clear cA0 cA1 cA2 cA3
  have HI := Lib.hid (heap_alloc_new w3 (.cells #[.int .i64 a.known, .int .i64 a.kind, .int .i64 a.cast.id, .int .i64 a.cast.src] 3))
  have Ah4 := Lib.hid (blk_below Ah3.out ((Below.refl w3.heap.size w3).alloc (Nat.le_refl _) (.cells #[.int .i64 a.known, .int .i64 a.kind, .int .i64 a.cast.id, .int .i64 a.cast.src] 3)) (blk_lt Ah3.out))
  have Bh4 := Lib.hid (blk_below Bh3.out ((Below.refl w3.heap.size w3).alloc (Nat.le_refl _) (.cells #[.int .i64 a.known, .int .i64 a.kind, .int .i64 a.cast.id, .int .i64 a.cast.src] 3)) (blk_lt Bh3.out))
  have HB4 := Lib.hid (HB3.out.alloc HB3.out.size (.cells #[.int .i64 a.known, .int .i64 a.kind, .int .i64 a.cast.id, .int .i64 a.cast.src] 3))
  clear HB3 Ah3 Bh3
  generalize w3.alloc (.cells #[.int .i64 a.known, .int .i64 a.kind, .int .i64 a.cast.id, .int .i64 a.cast.src] 3) = w4 at *
  generalize w3.heap.size = bHI at *
  refine (nums_any _ (heads a) _ (carg_four HI.out) (by show (4 : Nat) ≤ 1000; omega) (heads_I HNA.out.1)).mono ?_
  rintro e w5 ⟨rfl, hb⟩
  have HB5 := Lib.hid (HB4.out.trans (hb.mono HB4.out.size))
  have Ah5 := Lib.hid (blk_below Ah4.out hb (blk_lt Ah4.out))
  have Bh5 := Lib.hid (blk_below Bh4.out hb (blk_lt Bh4.out))
  clear HB4 Ah4 Bh4
  clear hb
  clear HI
  have cB0 := rowN Bh5.out 0 (.int .i64 b.kind) rfl
  have cB1 := rowN Bh5.out 1 (.int .i64 b.known) rfl
  have cB2 := rowN Bh5.out 2 (.int .i64 b.cast.id) rfl
  have cB3 := rowN Bh5.out 3 (.int .i64 b.cast.src) rfl
  go_wp2_with fail
  clear cB0 cB1 cB2 cB3
  have HI := Lib.hid (heap_alloc_new w5 (.cells #[.int .i64 b.known, .int .i64 b.kind, .int .i64 b.cast.id, .int .i64 b.cast.src] 3))
  have Ah6 := Lib.hid (blk_below Ah5.out ((Below.refl w5.heap.size w5).alloc (Nat.le_refl _) (.cells #[.int .i64 b.known, .int .i64 b.kind, .int .i64 b.cast.id, .int .i64 b.cast.src] 3)) (blk_lt Ah5.out))
  have Bh6 := Lib.hid (blk_below Bh5.out ((Below.refl w5.heap.size w5).alloc (Nat.le_refl _) (.cells #[.int .i64 b.known, .int .i64 b.kind, .int .i64 b.cast.id, .int .i64 b.cast.src] 3)) (blk_lt Bh5.out))
  have HB6 := Lib.hid (HB5.out.alloc HB5.out.size (.cells #[.int .i64 b.known, .int .i64 b.kind, .int .i64 b.cast.id, .int .i64 b.cast.src] 3))
  clear HB5 Ah5 Bh5
  generalize w5.alloc (.cells #[.int .i64 b.known, .int .i64 b.kind, .int .i64 b.cast.id, .int .i64 b.cast.src] 3) = w6 at *
  generalize w5.heap.size = bHI at *
  refine (nums_any _ (heads b) _ (carg_four HI.out) (by show (4 : Nat) ≤ 1000; omega) (heads_I HNB.out.1)).mono ?_
  rintro e w7 ⟨rfl, hb⟩
  have HB7 := Lib.hid (HB6.out.trans (hb.mono HB6.out.size))
  have Ah7 := Lib.hid (blk_below Ah6.out hb (blk_lt Ah6.out))
  have Bh7 := Lib.hid (blk_below Bh6.out hb (blk_lt Bh6.out))
  clear HB6 Ah6 Bh6
  clear hb
  clear HI
  go_wp2_with (first | (refine wpList_load_rowW (by first | (go_simp; done) | rfl) 29 _ rfl _ rfl 29 _ _ _ Ah7.out undNw rfl infoNw ?_))
  refine (cbytes_any a (.slice a0 a.cast.rain.length qa) _ (HRA.out.below (stays_list stays_Span 2) HB7.out) HNA.out.1 HNA.out.2 HFA.out.1 HFA.out.2).mono ?_
  rintro e w8 ⟨rfl, hb⟩
  have HB8 := Lib.hid (HB7.out.trans (hb.mono HB7.out.size))
  have Ah8 := Lib.hid (blk_below Ah7.out hb (blk_lt Ah7.out))
  have Bh8 := Lib.hid (blk_below Bh7.out hb (blk_lt Bh7.out))
  clear HB7 Ah7 Bh7
  clear hb
  go_wp2_with (first | (refine wpList_load_rowW (by first | (go_simp; done) | rfl) 29 _ rfl _ rfl 29 _ _ _ Bh8.out undNw rfl infoNw ?_))
  refine (cbytes_any b (.slice b0 b.cast.rain.length qb) _ (HRB.out.below (stays_list stays_Span 2) HB8.out) HNB.out.1 HNB.out.2 HFB.out.1 HFB.out.2).mono ?_
  rintro e w9 ⟨rfl, hb⟩
  have HB9 := Lib.hid (HB8.out.trans (hb.mono HB8.out.size))
  have Ah9 := Lib.hid (blk_below Ah8.out hb (blk_lt Ah8.out))
  have Bh9 := Lib.hid (blk_below Bh8.out hb (blk_lt Bh8.out))
  clear HB8 Ah8 Bh8
  clear hb
  by_cases hh : heads a = heads b
  rotate_left 1
  · rcases heads_dir HNA.out.1 HNB.out.1 hh with ⟨d1, d2⟩ | ⟨d1, d2⟩
    · have f1 : Op.bytesLess (newsB a) (newsB b) = true := less_is (decide_eq_true d1.lt)
      have f2 : Op.bytesLess (joinL intL (heads a)) (joinL intL (heads b)) = true := less_is (decide_eq_true d2.lt)
      have f3 : ((joinL intL (heads a)) == (joinL intL (heads b))) = false := beq_is (decide_eq_false (fun e => by rw [e] at d2; exact List.lt_irrefl _ d2.lt))
      clear hh d1 d2
      go_wp2_with fail
      go_ret
      exact ⟨rfl, HB9.out⟩
    · have f1 : Op.bytesLess (newsB a) (newsB b) = false := less_is (decide_eq_false (fun e => List.lt_irrefl _ (List.lt_trans e d1.lt)))
      have f2 : Op.bytesLess (joinL intL (heads a)) (joinL intL (heads b)) = false := less_is (decide_eq_false (fun e => List.lt_irrefl _ (List.lt_trans e d2.lt)))
      have f3 : ((joinL intL (heads a)) == (joinL intL (heads b))) = false := beq_is (decide_eq_false (fun e => by rw [e] at d2; exact List.lt_irrefl _ d2.lt))
      clear hh d1 d2
      go_wp2_with fail
      go_ret
      exact ⟨rfl, HB9.out⟩
  have f3 : ((joinL intL (heads a)) == (joinL intL (heads b))) = true := beq_is (by rw [hh]; exact decide_eq_true rfl)
  have HH := Lib.hid hh
  clear hh
  go_wp2_with (refine wpList_load_range (by first | (go_simp; done) | rfl) 27 _ rfl _ _ rfl _ _ (range3 (rowN Ah9.out 2 (.int .i64 a.cast.id) rfl) (rowN Ah9.out 3 (.int .i64 a.cast.src) rfl) (rowN Ah9.out 4 (.slice a0 a.cast.rain.length qa) rfl)) undKs rfl infoKs ?_)
  refine (rows_any a.cast (.slice a0 a.cast.rain.length qa) _ (HRA.out.below (stays_list stays_Span 2) HB9.out) HNA.out.2 HFA.out.1 HFA.out.2).mono ?_
  rintro e w10 ⟨va, rfl, hcvA, hb⟩
  have HB10 := Lib.hid (HB9.out.trans (hb.mono HB9.out.size))
  have Ah10 := Lib.hid (blk_below Ah9.out hb (blk_lt Ah9.out))
  have Bh10 := Lib.hid (blk_below Bh9.out hb (blk_lt Bh9.out))
  clear HB9 Ah9 Bh9
  clear hb
  obtain ⟨pa, ca, rfl, hca⟩ := hcvA
  have HCA0 := Lib.hid hca
  have HLA : Hid ((a.cast.rain.map rowS).length = a.cast.rain.length) := Lib.hid (List.length_map _)
  clear hca
  rw [HLA.out]
  have HWA := Lib.hid (Below.refl w10.heap.size w10)
  go_wp2_with (refine wpList_load_range (by first | (go_simp; done) | rfl) 27 _ rfl _ _ rfl _ _ (range3 (rowN Bh10.out 2 (.int .i64 b.cast.id) rfl) (rowN Bh10.out 3 (.int .i64 b.cast.src) rfl) (rowN Bh10.out 4 (.slice b0 b.cast.rain.length qb) rfl)) undKs rfl infoKs ?_)
  refine (rows_any b.cast (.slice b0 b.cast.rain.length qb) _ (HRB.out.below (stays_list stays_Span 2) HB10.out) HNB.out.2 HFB.out.1 HFB.out.2).mono ?_
  rintro e w11 ⟨vb, rfl, hcvB, hb⟩
  have HWA2 := Lib.hid hb
  have HBz := Lib.hid (HB10.out.trans (hb.mono HB10.out.size))
  obtain ⟨pb, cb, rfl, hcb⟩ := hcvB
  have HCB := Lib.hid hcb
  have HLB : Hid ((b.cast.rain.map rowS).length = b.cast.rain.length) := Lib.hid (List.length_map _)
  have HCA : Hid (∀ (j : Nat) (y : ByteArray), (a.cast.rain.map rowS)[j]? = some y → ∃ p, pa = some p ∧ (p.add j).block < w11.heap.size ∧ w11.cell? (p.add j) = some (.string y)) := Lib.hid fun j y hj => by
      obtain ⟨p, e1, e2, e3⟩ := HCA0.out j y hj
      exact ⟨p, e1, Nat.lt_of_lt_of_le e2 HWA2.out.size, (HWA2.out.cell e2).trans e3⟩
  clear hcb hb HWA HWA2 HCA0 HB10 Ah10 Bh10
  rw [HLB.out]
  go_wp2_with fail
  go_loopw [13] (fun iv wr => ∃ k : Nat, k ≤ a.cast.rain.length ∧ k ≤ b.cast.rain.length ∧ iv = .int .i64 k ∧ a.cast.rain.take k = b.cast.rain.take k ∧ Below w11.heap.size w11 wr) (fun iv _ => a.cast.rain.length - (intOf iv).toNat)
  case atStart => exact ⟨0, Nat.zero_le _, Nat.zero_le _, rfl, rfl, Below.refl _ _⟩
  case round =>
    obtain ⟨k, hk1, hk2, rfl, htk, hB⟩ := hrel
    have hk30 := HFA.out.1
    have HTK := Lib.hid htk
    have HBr := Lib.hid hB
    clear htk hB
    by_cases hla : k < a.cast.rain.length
    · by_cases hlb : k < b.cast.rain.length
      · obtain ⟨r, hr⟩ : ∃ r, a.cast.rain[k]? = some r := ⟨_, List.getElem?_eq_getElem hla⟩
        obtain ⟨s, hs⟩ : ∃ s, b.cast.rain[k]? = some s := ⟨_, List.getElem?_eq_getElem hlb⟩
        obtain ⟨p1, rfl, hp2, hp3⟩ := HCA.out k (rowS r) (by rw [List.getElem?_map, hr]; rfl)
        obtain ⟨p2, rfl, hq2, hq3⟩ := HCB.out k (rowS s) (by rw [List.getElem?_map, hs]; rfl)
        have HPA : Hid ((p1.add k).block < wr.heap.size) := Lib.hid (Nat.lt_of_lt_of_le hp2 HBr.out.size)
        have HQA : Hid ((p2.add k).block < wr.heap.size) := Lib.hid (Nat.lt_of_lt_of_le hq2 HBr.out.size)
        have HPC : Hid (wr.cell? (p1.add k) = some (.string (rowS r))) := Lib.hid ((HBr.out.cell hp2).trans hp3)
        have HQC : Hid (wr.cell? (p2.add k) = some (.string (rowS s))) := Lib.hid ((HBr.out.cell hq2).trans hq3)
        have HR_ := Lib.hid hr
        have HS_ := Lib.hid hs
        have hla' : (k : Int) < (a.cast.rain.length : Int) := by omega
        have hlb' : (k : Int) < (b.cast.rain.length : Int) := by omega
        clear hp2 hp3 hq2 hq3 hr hs
        by_cases he : rowB r = rowB s
        · have f4 : ((rowS r).toList == (rowS s).toList) = true := by
            rw [ByteArray.toList_eq, ByteArray.toList_eq]
            exact beq_is (decide_eq_true he)
          have HNX := Lib.hid (take_next HNA.out HNB.out HTK.out HR_.out HS_.out he)
          clear he
          go_upto_region 16 with fail
          refine wp_region_noPanic ?_
          refine wp_region_held_drew (S := fun w' => Below wr.heap.size wr w') (by kernel_rfl) (Below.refl _ _).drew (fun hHeld => ?_)
          refine' wpAnyH_take (i := 0) (v := _) (by simp only [List.getElem?_toArray, List.getElem?_cons_zero]; exact rfl) (by kernel_rfl) (by kernel_rfl) (by kernel_rfl) (fun _ _ _ h => h) (Or.inl ⟨by rfl, ?y0x1⟩) hHeld ?r0x1
          case y0x1 => (intro w hSw; (try dsimp only at hSw); go_simp; try with_reducible rfl)
          try simp only [Act.put, List.setIfInBounds_toArray, List.set_cons_zero, List.set_cons_succ]
          refine' wpAnyH_take (i := 1) (v := _) (by simp only [List.getElem?_toArray, List.getElem?_cons_succ, List.getElem?_cons_zero]; exact rfl) (by kernel_rfl) (by kernel_rfl) (by kernel_rfl) (fun _ _ _ h => h) (Or.inl ⟨by rfl, ?y1x2⟩) hHeld ?r1x2
          case y1x2 => (intro w hSw; (try dsimp only at hSw); go_simp; try with_reducible rfl)
          try simp only [Act.put, List.setIfInBounds_toArray, List.set_cons_zero, List.set_cons_succ]
          refine' wpAnyH_take (i := 2) (v := _) (by simp only [List.getElem?_toArray, List.getElem?_cons_succ, List.getElem?_cons_zero]; exact rfl) (by kernel_rfl) (by kernel_rfl) (by kernel_rfl) (fun _ _ _ h => h) (Or.inl ⟨by rfl, ?y2x3⟩) hHeld ?r2x3
          case y2x3 => (intro w hSw; (try dsimp only at hSw); go_simp; try with_reducible rfl)
          try simp only [Act.put, List.setIfInBounds_toArray, List.set_cons_zero, List.set_cons_succ]
          refine' wpAnyH_take (i := 3) (v := _) (by simp only [List.getElem?_toArray, List.getElem?_cons_succ, List.getElem?_cons_zero]; exact rfl) (by kernel_rfl) (by kernel_rfl) (by kernel_rfl) (fun _ _ _ h => h) (Or.inl ⟨by rfl, ?y3x4⟩) hHeld ?r3x4
          case y3x4 => (intro wz hSw; have e4 := (hSw.cell HPA.out).trans HPC.out; go_simp; try with_reducible rfl)
          try simp only [Act.put, List.setIfInBounds_toArray, List.set_cons_zero, List.set_cons_succ]
          refine' wpAnyH_take (i := 4) (v := _) (by simp only [List.getElem?_toArray, List.getElem?_cons_succ, List.getElem?_cons_zero]; exact rfl) (by kernel_rfl) (by kernel_rfl) (by kernel_rfl) (fun _ _ _ h => h) (Or.inl ⟨by rfl, ?y4x5⟩) hHeld ?r4x5
          case y4x5 => (intro w hSw; (try dsimp only at hSw); go_simp; try with_reducible rfl)
          try simp only [Act.put, List.setIfInBounds_toArray, List.set_cons_zero, List.set_cons_succ]
          refine' wpAnyH_take (i := 5) (v := _) (by simp only [List.getElem?_toArray, List.getElem?_cons_succ, List.getElem?_cons_zero]; exact rfl) (by kernel_rfl) (by kernel_rfl) (by kernel_rfl) (fun _ _ _ h => h) (Or.inl ⟨by rfl, ?y5x6⟩) hHeld ?r5x6
          case y5x6 => (intro w hSw; (try dsimp only at hSw); go_simp; try with_reducible rfl)
          try simp only [Act.put, List.setIfInBounds_toArray, List.set_cons_zero, List.set_cons_succ]
          refine' wpAnyH_take (i := 6) (v := _) (by simp only [List.getElem?_toArray, List.getElem?_cons_succ, List.getElem?_cons_zero]; exact rfl) (by kernel_rfl) (by kernel_rfl) (by kernel_rfl) (fun _ _ _ h => h) (Or.inl ⟨by rfl, ?y6x7⟩) hHeld ?r6x7
          case y6x7 => (intro w hSw; (try dsimp only at hSw); go_simp; try with_reducible rfl)
          try simp only [Act.put, List.setIfInBounds_toArray, List.set_cons_zero, List.set_cons_succ]
          refine' wpAnyH_take (i := 7) (v := _) (by simp only [List.getElem?_toArray, List.getElem?_cons_succ, List.getElem?_cons_zero]; exact rfl) (by kernel_rfl) (by kernel_rfl) (by kernel_rfl) (fun _ _ _ h => h) (Or.inl ⟨by rfl, ?y7x8⟩) hHeld ?r7x8
          case y7x8 => (intro wz hSw; have e4 := (hSw.cell HQA.out).trans HQC.out; go_simp; try with_reducible rfl)
          try simp only [Act.put, List.setIfInBounds_toArray, List.set_cons_zero, List.set_cons_succ]
          refine' wpAnyH_take (i := 8) (v := _) (by simp only [List.getElem?_toArray, List.getElem?_cons_succ, List.getElem?_cons_zero]; exact rfl) (by kernel_rfl) (by kernel_rfl) (by kernel_rfl) (fun _ _ _ h => h) (Or.inl ⟨by rfl, ?y8x9⟩) hHeld ?r8x9
          case y8x9 => (intro w hSw; (try dsimp only at hSw); go_simp; try with_reducible rfl)
          try simp only [Act.put, List.setIfInBounds_toArray, List.set_cons_zero, List.set_cons_succ]
          refine wpAnyH_done (by kernel_rfl) ?_ _
          refine NoPanic.normal ?_
          have HBn := Lib.hid (HBr.out.trans (hHeld.mono HBr.out.size))
          go_wp2_with fail
          go_roundw
          case rel => exact ⟨k + 1, by omega, by omega, by go_num, HNX.out, HBn.out⟩
          case measure => simp [intOf]; omega
        · have f4 : ((rowS r).toList == (rowS s).toList) = false := by
            rw [ByteArray.toList_eq, ByteArray.toList_eq]
            exact beq_is (decide_eq_false he)
          have HDIR := Lib.hid (rain_dir HNA.out HNB.out HH.out HTK.out HR_.out HS_.out he)
          clear he
          go_upto_region 16 with fail
          refine wp_region_noPanic ?_
          refine wp_region_held_drew (S := fun w' => Below wr.heap.size wr w') (by kernel_rfl) (Below.refl _ _).drew (fun hHeld => ?_)
          refine' wpAnyH_take (i := 0) (v := _) (by simp only [List.getElem?_toArray, List.getElem?_cons_zero]; exact rfl) (by kernel_rfl) (by kernel_rfl) (by kernel_rfl) (fun _ _ _ h => h) (Or.inl ⟨by rfl, ?y0x10⟩) hHeld ?r0x10
          case y0x10 => (intro w hSw; (try dsimp only at hSw); go_simp; try with_reducible rfl)
          try simp only [Act.put, List.setIfInBounds_toArray, List.set_cons_zero, List.set_cons_succ]
          refine' wpAnyH_take (i := 1) (v := _) (by simp only [List.getElem?_toArray, List.getElem?_cons_succ, List.getElem?_cons_zero]; exact rfl) (by kernel_rfl) (by kernel_rfl) (by kernel_rfl) (fun _ _ _ h => h) (Or.inl ⟨by rfl, ?y1x11⟩) hHeld ?r1x11
          case y1x11 => (intro w hSw; (try dsimp only at hSw); go_simp; try with_reducible rfl)
          try simp only [Act.put, List.setIfInBounds_toArray, List.set_cons_zero, List.set_cons_succ]
          refine' wpAnyH_take (i := 2) (v := _) (by simp only [List.getElem?_toArray, List.getElem?_cons_succ, List.getElem?_cons_zero]; exact rfl) (by kernel_rfl) (by kernel_rfl) (by kernel_rfl) (fun _ _ _ h => h) (Or.inl ⟨by rfl, ?y2x12⟩) hHeld ?r2x12
          case y2x12 => (intro w hSw; (try dsimp only at hSw); go_simp; try with_reducible rfl)
          try simp only [Act.put, List.setIfInBounds_toArray, List.set_cons_zero, List.set_cons_succ]
          refine' wpAnyH_take (i := 3) (v := _) (by simp only [List.getElem?_toArray, List.getElem?_cons_succ, List.getElem?_cons_zero]; exact rfl) (by kernel_rfl) (by kernel_rfl) (by kernel_rfl) (fun _ _ _ h => h) (Or.inl ⟨by rfl, ?y3x13⟩) hHeld ?r3x13
          case y3x13 => (intro wz hSw; have e4 := (hSw.cell HPA.out).trans HPC.out; go_simp; try with_reducible rfl)
          try simp only [Act.put, List.setIfInBounds_toArray, List.set_cons_zero, List.set_cons_succ]
          refine' wpAnyH_take (i := 4) (v := _) (by simp only [List.getElem?_toArray, List.getElem?_cons_succ, List.getElem?_cons_zero]; exact rfl) (by kernel_rfl) (by kernel_rfl) (by kernel_rfl) (fun _ _ _ h => h) (Or.inl ⟨by rfl, ?y4x14⟩) hHeld ?r4x14
          case y4x14 => (intro w hSw; (try dsimp only at hSw); go_simp; try with_reducible rfl)
          try simp only [Act.put, List.setIfInBounds_toArray, List.set_cons_zero, List.set_cons_succ]
          refine' wpAnyH_take (i := 5) (v := _) (by simp only [List.getElem?_toArray, List.getElem?_cons_succ, List.getElem?_cons_zero]; exact rfl) (by kernel_rfl) (by kernel_rfl) (by kernel_rfl) (fun _ _ _ h => h) (Or.inl ⟨by rfl, ?y5x15⟩) hHeld ?r5x15
          case y5x15 => (intro w hSw; (try dsimp only at hSw); go_simp; try with_reducible rfl)
          try simp only [Act.put, List.setIfInBounds_toArray, List.set_cons_zero, List.set_cons_succ]
          refine' wpAnyH_take (i := 6) (v := _) (by simp only [List.getElem?_toArray, List.getElem?_cons_succ, List.getElem?_cons_zero]; exact rfl) (by kernel_rfl) (by kernel_rfl) (by kernel_rfl) (fun _ _ _ h => h) (Or.inl ⟨by rfl, ?y6x16⟩) hHeld ?r6x16
          case y6x16 => (intro w hSw; (try dsimp only at hSw); go_simp; try with_reducible rfl)
          try simp only [Act.put, List.setIfInBounds_toArray, List.set_cons_zero, List.set_cons_succ]
          refine' wpAnyH_take (i := 7) (v := _) (by simp only [List.getElem?_toArray, List.getElem?_cons_succ, List.getElem?_cons_zero]; exact rfl) (by kernel_rfl) (by kernel_rfl) (by kernel_rfl) (fun _ _ _ h => h) (Or.inl ⟨by rfl, ?y7x17⟩) hHeld ?r7x17
          case y7x17 => (intro wz hSw; have e4 := (hSw.cell HQA.out).trans HQC.out; go_simp; try with_reducible rfl)
          try simp only [Act.put, List.setIfInBounds_toArray, List.set_cons_zero, List.set_cons_succ]
          refine' wpAnyH_take (i := 8) (v := _) (by simp only [List.getElem?_toArray, List.getElem?_cons_succ, List.getElem?_cons_zero]; exact rfl) (by kernel_rfl) (by kernel_rfl) (by kernel_rfl) (fun _ _ _ h => h) (Or.inl ⟨by rfl, ?y8x18⟩) hHeld ?r8x18
          case y8x18 => (intro w hSw; (try dsimp only at hSw); go_simp; try with_reducible rfl)
          try simp only [Act.put, List.setIfInBounds_toArray, List.set_cons_zero, List.set_cons_succ]
          refine wpAnyH_done (by kernel_rfl) ?_ _
          refine NoPanic.normal ?_
          have hHq := Lib.hid hHeld
          rcases HDIR.out with ⟨d1, d2⟩ | ⟨d1, d2⟩
          · have f1 : Op.bytesLess (newsB a) (newsB b) = true := less_is (decide_eq_true d1.lt)
            have f2 : Op.bytesLess (rowS r).toList (rowS s).toList = true := by
              rw [ByteArray.toList_eq, ByteArray.toList_eq]
              exact less_is (decide_eq_true d2.lt)
            clear d1 d2
            go_upto_region 17 with fail
            rename World => wq
            have HPA2 : Hid ((p1.add k).block < wq.heap.size) := Lib.hid (Nat.lt_of_lt_of_le HPA.out hHq.out.size)
            have HQA2 : Hid ((p2.add k).block < wq.heap.size) := Lib.hid (Nat.lt_of_lt_of_le HQA.out hHq.out.size)
            have HPC2 : Hid (wq.cell? (p1.add k) = some (.string (rowS r))) := Lib.hid ((hHq.out.cell HPA.out).trans HPC.out)
            have HQC2 : Hid (wq.cell? (p2.add k) = some (.string (rowS s))) := Lib.hid ((hHq.out.cell HQA.out).trans HQC.out)
            have HF3 := Lib.hid (HBr.out.trans (hHq.out.mono HBr.out.size))
            refine wp_region_noPanic ?_
            refine wp_region_held_drew (S := fun w' => Below wq.heap.size wq w') (by kernel_rfl) (Below.refl _ _).drew.drew (fun hHeld => ?_)
            refine' wpAnyH_take (i := 0) (v := _) (by simp only [List.getElem?_toArray, List.getElem?_cons_zero]; exact rfl) (by kernel_rfl) (by kernel_rfl) (by kernel_rfl) (fun _ _ _ h => h) (Or.inl ⟨by rfl, ?y0x19⟩) hHeld ?r0x19
            case y0x19 => (intro w hSw; (try dsimp only at hSw); go_simp; try with_reducible rfl)
            try simp only [Act.put, List.setIfInBounds_toArray, List.set_cons_zero, List.set_cons_succ]
            refine' wpAnyH_take (i := 1) (v := _) (by simp only [List.getElem?_toArray, List.getElem?_cons_succ, List.getElem?_cons_zero]; exact rfl) (by kernel_rfl) (by kernel_rfl) (by kernel_rfl) (fun _ _ _ h => h) (Or.inl ⟨by rfl, ?y1x20⟩) hHeld ?r1x20
            case y1x20 => (intro w hSw; (try dsimp only at hSw); go_simp; try with_reducible rfl)
            try simp only [Act.put, List.setIfInBounds_toArray, List.set_cons_zero, List.set_cons_succ]
            refine' wpAnyH_take (i := 2) (v := _) (by simp only [List.getElem?_toArray, List.getElem?_cons_succ, List.getElem?_cons_zero]; exact rfl) (by kernel_rfl) (by kernel_rfl) (by kernel_rfl) (fun _ _ _ h => h) (Or.inl ⟨by rfl, ?y2x21⟩) hHeld ?r2x21
            case y2x21 => (intro w hSw; (try dsimp only at hSw); go_simp; try with_reducible rfl)
            try simp only [Act.put, List.setIfInBounds_toArray, List.set_cons_zero, List.set_cons_succ]
            refine' wpAnyH_take (i := 3) (v := _) (by simp only [List.getElem?_toArray, List.getElem?_cons_succ, List.getElem?_cons_zero]; exact rfl) (by kernel_rfl) (by kernel_rfl) (by kernel_rfl) (fun _ _ _ h => h) (Or.inl ⟨by rfl, ?y3x22⟩) hHeld ?r3x22
            case y3x22 => (intro w hSw; (try dsimp only at hSw); go_simp; try with_reducible rfl)
            try simp only [Act.put, List.setIfInBounds_toArray, List.set_cons_zero, List.set_cons_succ]
            refine' wpAnyH_take (i := 4) (v := _) (by simp only [List.getElem?_toArray, List.getElem?_cons_succ, List.getElem?_cons_zero]; exact rfl) (by kernel_rfl) (by kernel_rfl) (by kernel_rfl) (fun _ _ _ h => h) (Or.inl ⟨by rfl, ?y4x23⟩) hHeld ?r4x23
            case y4x23 => (intro w hSw; (try dsimp only at hSw); go_simp; try with_reducible rfl)
            try simp only [Act.put, List.setIfInBounds_toArray, List.set_cons_zero, List.set_cons_succ]
            refine' wpAnyH_take (i := 5) (v := _) (by simp only [List.getElem?_toArray, List.getElem?_cons_succ, List.getElem?_cons_zero]; exact rfl) (by kernel_rfl) (by kernel_rfl) (by kernel_rfl) (fun _ _ _ h => h) (Or.inl ⟨by rfl, ?y5x24⟩) hHeld ?r5x24
            case y5x24 => (intro w hSw; (try dsimp only at hSw); go_simp; try with_reducible rfl)
            try simp only [Act.put, List.setIfInBounds_toArray, List.set_cons_zero, List.set_cons_succ]
            refine' wpAnyH_take (i := 6) (v := _) (by simp only [List.getElem?_toArray, List.getElem?_cons_succ, List.getElem?_cons_zero]; exact rfl) (by kernel_rfl) (by kernel_rfl) (by kernel_rfl) (fun _ _ _ h => h) (Or.inl ⟨by rfl, ?y6x25⟩) hHeld ?r6x25
            case y6x25 => (intro w hSw; (try dsimp only at hSw); go_simp; try with_reducible rfl)
            try simp only [Act.put, List.setIfInBounds_toArray, List.set_cons_zero, List.set_cons_succ]
            refine' wpAnyH_take (i := 7) (v := _) (by simp only [List.getElem?_toArray, List.getElem?_cons_succ, List.getElem?_cons_zero]; exact rfl) (by kernel_rfl) (by kernel_rfl) (by kernel_rfl) (fun _ _ _ h => h) (Or.inl ⟨by rfl, ?y7x26⟩) hHeld ?r7x26
            case y7x26 => (intro w hSw; (try dsimp only at hSw); go_simp; try with_reducible rfl)
            try simp only [Act.put, List.setIfInBounds_toArray, List.set_cons_zero, List.set_cons_succ]
            refine' wpAnyH_take (i := 8) (v := _) (by simp only [List.getElem?_toArray, List.getElem?_cons_succ, List.getElem?_cons_zero]; exact rfl) (by kernel_rfl) (by kernel_rfl) (by kernel_rfl) (fun _ _ _ h => h) (Or.inl ⟨by rfl, ?y8x27⟩) hHeld ?r8x27
            case y8x27 => (intro wz hSw; have e4 := (hSw.cell HPA2.out).trans HPC2.out; go_simp; try with_reducible rfl)
            try simp only [Act.put, List.setIfInBounds_toArray, List.set_cons_zero, List.set_cons_succ]
            refine' wpAnyH_take (i := 9) (v := _) (by simp only [List.getElem?_toArray, List.getElem?_cons_succ, List.getElem?_cons_zero]; exact rfl) (by kernel_rfl) (by kernel_rfl) (by kernel_rfl) (fun _ _ _ h => h) (Or.inl ⟨by rfl, ?y9x28⟩) hHeld ?r9x28
            case y9x28 => (intro w hSw; (try dsimp only at hSw); go_simp; try with_reducible rfl)
            try simp only [Act.put, List.setIfInBounds_toArray, List.set_cons_zero, List.set_cons_succ]
            refine' wpAnyH_take (i := 10) (v := _) (by simp only [List.getElem?_toArray, List.getElem?_cons_succ, List.getElem?_cons_zero]; exact rfl) (by kernel_rfl) (by kernel_rfl) (by kernel_rfl) (fun _ _ _ h => h) (Or.inl ⟨by rfl, ?y10x29⟩) hHeld ?r10x29
            case y10x29 => (intro w hSw; (try dsimp only at hSw); go_simp; try with_reducible rfl)
            try simp only [Act.put, List.setIfInBounds_toArray, List.set_cons_zero, List.set_cons_succ]
            refine' wpAnyH_take (i := 11) (v := _) (by simp only [List.getElem?_toArray, List.getElem?_cons_succ, List.getElem?_cons_zero]; exact rfl) (by kernel_rfl) (by kernel_rfl) (by kernel_rfl) (fun _ _ _ h => h) (Or.inl ⟨by rfl, ?y11x30⟩) hHeld ?r11x30
            case y11x30 => (intro w hSw; (try dsimp only at hSw); go_simp; try with_reducible rfl)
            try simp only [Act.put, List.setIfInBounds_toArray, List.set_cons_zero, List.set_cons_succ]
            refine' wpAnyH_take (i := 12) (v := _) (by simp only [List.getElem?_toArray, List.getElem?_cons_succ, List.getElem?_cons_zero]; exact rfl) (by kernel_rfl) (by kernel_rfl) (by kernel_rfl) (fun _ _ _ h => h) (Or.inl ⟨by rfl, ?y12x31⟩) hHeld ?r12x31
            case y12x31 => (intro wz hSw; have e4 := (hSw.cell HQA2.out).trans HQC2.out; go_simp; try with_reducible rfl)
            try simp only [Act.put, List.setIfInBounds_toArray, List.set_cons_zero, List.set_cons_succ]
            refine' wpAnyH_take (i := 13) (v := _) (by simp only [List.getElem?_toArray, List.getElem?_cons_succ, List.getElem?_cons_zero]; exact rfl) (by kernel_rfl) (by kernel_rfl) (by kernel_rfl) (fun _ _ _ h => h) (Or.inl ⟨by rfl, ?y13x32⟩) hHeld ?r13x32
            case y13x32 => (intro w hSw; (try dsimp only at hSw); go_simp; try with_reducible rfl)
            try simp only [Act.put, List.setIfInBounds_toArray, List.set_cons_zero, List.set_cons_succ]
            refine' wpAnyH_take (i := 14) (v := _) (by simp only [List.getElem?_toArray, List.getElem?_cons_succ, List.getElem?_cons_zero]; exact rfl) (by kernel_rfl) (by kernel_rfl) (by kernel_rfl) (fun _ _ _ h => h) (Or.inl ⟨by rfl, ?y14x33⟩) hHeld ?r14x33
            case y14x33 => (intro w hSw; (try dsimp only at hSw); go_simp; try with_reducible rfl)
            try simp only [Act.put, List.setIfInBounds_toArray, List.set_cons_zero, List.set_cons_succ]
            refine' wpAnyH_take (i := 15) (v := _) (by simp only [List.getElem?_toArray, List.getElem?_cons_succ, List.getElem?_cons_zero]; exact rfl) (by kernel_rfl) (by kernel_rfl) (by kernel_rfl) (fun _ _ _ h => h) (Or.inl ⟨by rfl, ?y15x34⟩) hHeld ?r15x34
            case y15x34 => (intro w hSw; (try dsimp only at hSw); go_simp; try with_reducible rfl)
            try simp only [Act.put, List.setIfInBounds_toArray, List.set_cons_zero, List.set_cons_succ]
            refine' wpAnyH_take (i := 16) (v := _) (by simp only [List.getElem?_toArray, List.getElem?_cons_succ, List.getElem?_cons_zero]; exact rfl) (by kernel_rfl) (by kernel_rfl) (by kernel_rfl) (fun _ _ _ h => h) (Or.inl ⟨by rfl, ?y16x35⟩) hHeld ?r16x35
            case y16x35 => (intro w hSw; (try dsimp only at hSw); go_simp; try with_reducible rfl)
            try simp only [Act.put, List.setIfInBounds_toArray, List.set_cons_zero, List.set_cons_succ]
            refine wpAnyH_done (by kernel_rfl) ?_ _
            refine NoPanic.normal ?_
            have hmo := hHeld.mono HF3.out.size
            have HF4 := Lib.hid (HF3.out.trans ⟨hmo.os, hmo.tape, hmo.output, hmo.size, hmo.block⟩)
            go_wp2_with fail
            go_ret
            exact ⟨rfl, HBz.out.trans (HF4.out.mono HBz.out.size)⟩
          · have f1 : Op.bytesLess (newsB a) (newsB b) = false := less_is (decide_eq_false (fun e => List.lt_irrefl _ (List.lt_trans e d1.lt)))
            have f2 : Op.bytesLess (rowS r).toList (rowS s).toList = false := by
              rw [ByteArray.toList_eq, ByteArray.toList_eq]
              exact less_is (decide_eq_false (fun e => List.lt_irrefl _ (List.lt_trans e d2.lt)))
            clear d1 d2
            go_upto_region 17 with fail
            rename World => wq
            have HPA2 : Hid ((p1.add k).block < wq.heap.size) := Lib.hid (Nat.lt_of_lt_of_le HPA.out hHq.out.size)
            have HQA2 : Hid ((p2.add k).block < wq.heap.size) := Lib.hid (Nat.lt_of_lt_of_le HQA.out hHq.out.size)
            have HPC2 : Hid (wq.cell? (p1.add k) = some (.string (rowS r))) := Lib.hid ((hHq.out.cell HPA.out).trans HPC.out)
            have HQC2 : Hid (wq.cell? (p2.add k) = some (.string (rowS s))) := Lib.hid ((hHq.out.cell HQA.out).trans HQC.out)
            have HF3 := Lib.hid (HBr.out.trans (hHq.out.mono HBr.out.size))
            refine wp_region_noPanic ?_
            refine wp_region_held_drew (S := fun w' => Below wq.heap.size wq w') (by kernel_rfl) (Below.refl _ _).drew.drew (fun hHeld => ?_)
            refine' wpAnyH_take (i := 0) (v := _) (by simp only [List.getElem?_toArray, List.getElem?_cons_zero]; exact rfl) (by kernel_rfl) (by kernel_rfl) (by kernel_rfl) (fun _ _ _ h => h) (Or.inl ⟨by rfl, ?y0x36⟩) hHeld ?r0x36
            case y0x36 => (intro w hSw; (try dsimp only at hSw); go_simp; try with_reducible rfl)
            try simp only [Act.put, List.setIfInBounds_toArray, List.set_cons_zero, List.set_cons_succ]
            refine' wpAnyH_take (i := 1) (v := _) (by simp only [List.getElem?_toArray, List.getElem?_cons_succ, List.getElem?_cons_zero]; exact rfl) (by kernel_rfl) (by kernel_rfl) (by kernel_rfl) (fun _ _ _ h => h) (Or.inl ⟨by rfl, ?y1x37⟩) hHeld ?r1x37
            case y1x37 => (intro w hSw; (try dsimp only at hSw); go_simp; try with_reducible rfl)
            try simp only [Act.put, List.setIfInBounds_toArray, List.set_cons_zero, List.set_cons_succ]
            refine' wpAnyH_take (i := 2) (v := _) (by simp only [List.getElem?_toArray, List.getElem?_cons_succ, List.getElem?_cons_zero]; exact rfl) (by kernel_rfl) (by kernel_rfl) (by kernel_rfl) (fun _ _ _ h => h) (Or.inl ⟨by rfl, ?y2x38⟩) hHeld ?r2x38
            case y2x38 => (intro w hSw; (try dsimp only at hSw); go_simp; try with_reducible rfl)
            try simp only [Act.put, List.setIfInBounds_toArray, List.set_cons_zero, List.set_cons_succ]
            refine' wpAnyH_take (i := 3) (v := _) (by simp only [List.getElem?_toArray, List.getElem?_cons_succ, List.getElem?_cons_zero]; exact rfl) (by kernel_rfl) (by kernel_rfl) (by kernel_rfl) (fun _ _ _ h => h) (Or.inl ⟨by rfl, ?y3x39⟩) hHeld ?r3x39
            case y3x39 => (intro w hSw; (try dsimp only at hSw); go_simp; try with_reducible rfl)
            try simp only [Act.put, List.setIfInBounds_toArray, List.set_cons_zero, List.set_cons_succ]
            refine' wpAnyH_take (i := 4) (v := _) (by simp only [List.getElem?_toArray, List.getElem?_cons_succ, List.getElem?_cons_zero]; exact rfl) (by kernel_rfl) (by kernel_rfl) (by kernel_rfl) (fun _ _ _ h => h) (Or.inl ⟨by rfl, ?y4x40⟩) hHeld ?r4x40
            case y4x40 => (intro w hSw; (try dsimp only at hSw); go_simp; try with_reducible rfl)
            try simp only [Act.put, List.setIfInBounds_toArray, List.set_cons_zero, List.set_cons_succ]
            refine' wpAnyH_take (i := 5) (v := _) (by simp only [List.getElem?_toArray, List.getElem?_cons_succ, List.getElem?_cons_zero]; exact rfl) (by kernel_rfl) (by kernel_rfl) (by kernel_rfl) (fun _ _ _ h => h) (Or.inl ⟨by rfl, ?y5x41⟩) hHeld ?r5x41
            case y5x41 => (intro w hSw; (try dsimp only at hSw); go_simp; try with_reducible rfl)
            try simp only [Act.put, List.setIfInBounds_toArray, List.set_cons_zero, List.set_cons_succ]
            refine' wpAnyH_take (i := 6) (v := _) (by simp only [List.getElem?_toArray, List.getElem?_cons_succ, List.getElem?_cons_zero]; exact rfl) (by kernel_rfl) (by kernel_rfl) (by kernel_rfl) (fun _ _ _ h => h) (Or.inl ⟨by rfl, ?y6x42⟩) hHeld ?r6x42
            case y6x42 => (intro w hSw; (try dsimp only at hSw); go_simp; try with_reducible rfl)
            try simp only [Act.put, List.setIfInBounds_toArray, List.set_cons_zero, List.set_cons_succ]
            refine' wpAnyH_take (i := 7) (v := _) (by simp only [List.getElem?_toArray, List.getElem?_cons_succ, List.getElem?_cons_zero]; exact rfl) (by kernel_rfl) (by kernel_rfl) (by kernel_rfl) (fun _ _ _ h => h) (Or.inl ⟨by rfl, ?y7x43⟩) hHeld ?r7x43
            case y7x43 => (intro w hSw; (try dsimp only at hSw); go_simp; try with_reducible rfl)
            try simp only [Act.put, List.setIfInBounds_toArray, List.set_cons_zero, List.set_cons_succ]
            refine' wpAnyH_take (i := 8) (v := _) (by simp only [List.getElem?_toArray, List.getElem?_cons_succ, List.getElem?_cons_zero]; exact rfl) (by kernel_rfl) (by kernel_rfl) (by kernel_rfl) (fun _ _ _ h => h) (Or.inl ⟨by rfl, ?y8x44⟩) hHeld ?r8x44
            case y8x44 => (intro wz hSw; have e4 := (hSw.cell HPA2.out).trans HPC2.out; go_simp; try with_reducible rfl)
            try simp only [Act.put, List.setIfInBounds_toArray, List.set_cons_zero, List.set_cons_succ]
            refine' wpAnyH_take (i := 9) (v := _) (by simp only [List.getElem?_toArray, List.getElem?_cons_succ, List.getElem?_cons_zero]; exact rfl) (by kernel_rfl) (by kernel_rfl) (by kernel_rfl) (fun _ _ _ h => h) (Or.inl ⟨by rfl, ?y9x45⟩) hHeld ?r9x45
            case y9x45 => (intro w hSw; (try dsimp only at hSw); go_simp; try with_reducible rfl)
            try simp only [Act.put, List.setIfInBounds_toArray, List.set_cons_zero, List.set_cons_succ]
            refine' wpAnyH_take (i := 10) (v := _) (by simp only [List.getElem?_toArray, List.getElem?_cons_succ, List.getElem?_cons_zero]; exact rfl) (by kernel_rfl) (by kernel_rfl) (by kernel_rfl) (fun _ _ _ h => h) (Or.inl ⟨by rfl, ?y10x46⟩) hHeld ?r10x46
            case y10x46 => (intro w hSw; (try dsimp only at hSw); go_simp; try with_reducible rfl)
            try simp only [Act.put, List.setIfInBounds_toArray, List.set_cons_zero, List.set_cons_succ]
            refine' wpAnyH_take (i := 11) (v := _) (by simp only [List.getElem?_toArray, List.getElem?_cons_succ, List.getElem?_cons_zero]; exact rfl) (by kernel_rfl) (by kernel_rfl) (by kernel_rfl) (fun _ _ _ h => h) (Or.inl ⟨by rfl, ?y11x47⟩) hHeld ?r11x47
            case y11x47 => (intro w hSw; (try dsimp only at hSw); go_simp; try with_reducible rfl)
            try simp only [Act.put, List.setIfInBounds_toArray, List.set_cons_zero, List.set_cons_succ]
            refine' wpAnyH_take (i := 12) (v := _) (by simp only [List.getElem?_toArray, List.getElem?_cons_succ, List.getElem?_cons_zero]; exact rfl) (by kernel_rfl) (by kernel_rfl) (by kernel_rfl) (fun _ _ _ h => h) (Or.inl ⟨by rfl, ?y12x48⟩) hHeld ?r12x48
            case y12x48 => (intro wz hSw; have e4 := (hSw.cell HQA2.out).trans HQC2.out; go_simp; try with_reducible rfl)
            try simp only [Act.put, List.setIfInBounds_toArray, List.set_cons_zero, List.set_cons_succ]
            refine' wpAnyH_take (i := 13) (v := _) (by simp only [List.getElem?_toArray, List.getElem?_cons_succ, List.getElem?_cons_zero]; exact rfl) (by kernel_rfl) (by kernel_rfl) (by kernel_rfl) (fun _ _ _ h => h) (Or.inl ⟨by rfl, ?y13x49⟩) hHeld ?r13x49
            case y13x49 => (intro w hSw; (try dsimp only at hSw); go_simp; try with_reducible rfl)
            try simp only [Act.put, List.setIfInBounds_toArray, List.set_cons_zero, List.set_cons_succ]
            refine' wpAnyH_take (i := 14) (v := _) (by simp only [List.getElem?_toArray, List.getElem?_cons_succ, List.getElem?_cons_zero]; exact rfl) (by kernel_rfl) (by kernel_rfl) (by kernel_rfl) (fun _ _ _ h => h) (Or.inl ⟨by rfl, ?y14x50⟩) hHeld ?r14x50
            case y14x50 => (intro w hSw; (try dsimp only at hSw); go_simp; try with_reducible rfl)
            try simp only [Act.put, List.setIfInBounds_toArray, List.set_cons_zero, List.set_cons_succ]
            refine' wpAnyH_take (i := 15) (v := _) (by simp only [List.getElem?_toArray, List.getElem?_cons_succ, List.getElem?_cons_zero]; exact rfl) (by kernel_rfl) (by kernel_rfl) (by kernel_rfl) (fun _ _ _ h => h) (Or.inl ⟨by rfl, ?y15x51⟩) hHeld ?r15x51
            case y15x51 => (intro w hSw; (try dsimp only at hSw); go_simp; try with_reducible rfl)
            try simp only [Act.put, List.setIfInBounds_toArray, List.set_cons_zero, List.set_cons_succ]
            refine' wpAnyH_take (i := 16) (v := _) (by simp only [List.getElem?_toArray, List.getElem?_cons_succ, List.getElem?_cons_zero]; exact rfl) (by kernel_rfl) (by kernel_rfl) (by kernel_rfl) (fun _ _ _ h => h) (Or.inl ⟨by rfl, ?y16x52⟩) hHeld ?r16x52
            case y16x52 => (intro w hSw; (try dsimp only at hSw); go_simp; try with_reducible rfl)
            try simp only [Act.put, List.setIfInBounds_toArray, List.set_cons_zero, List.set_cons_succ]
            refine wpAnyH_done (by kernel_rfl) ?_ _
            refine NoPanic.normal ?_
            have hmo := hHeld.mono HF3.out.size
            have HF4 := Lib.hid (HF3.out.trans ⟨hmo.os, hmo.tape, hmo.output, hmo.size, hmo.block⟩)
            go_wp2_with fail
            go_ret
            exact ⟨rfl, HBz.out.trans (HF4.out.mono HBz.out.size)⟩
      · obtain rfl : k = b.cast.rain.length := by omega
        have hd := short_dir HH.out.symm (by rw [HTK.out, List.take_length]) hla
        have f1 : Op.bytesLess (newsB a) (newsB b) = false := less_is (decide_eq_false (fun e => List.lt_irrefl _ (List.lt_trans e hd.lt)))
        have f2 : ((newsB a) == (newsB b)) = false := beq_is (decide_eq_false (fun e => by rw [e] at hd; exact List.lt_irrefl _ hd.lt))
        have g1 : ¬ (a.cast.rain.length : Int) < (b.cast.rain.length : Int) := by omega
        have g2 : ((a.cast.rain.length : Int) == (b.cast.rain.length : Int)) = false := by rw [beq_eq_false_iff_ne]; omega
        have g3 : (b.cast.rain.length : Int) < (a.cast.rain.length : Int) := by omega
        have g4 : ¬ (b.cast.rain.length : Int) < (b.cast.rain.length : Int) := by omega
        clear hd hla hlb hk1 hk2
        go_wp2_with fail
        go_ret
        exact ⟨rfl, HBz.out.trans (HBr.out.mono HBz.out.size)⟩
    · obtain rfl : k = a.cast.rain.length := by omega
      have g0 : ¬ (a.cast.rain.length : Int) < (a.cast.rain.length : Int) := by omega
      by_cases hlb : a.cast.rain.length < b.cast.rain.length
      · have hd := short_dir HH.out (by rw [← HTK.out, List.take_length]) hlb
        have f1 : Op.bytesLess (newsB a) (newsB b) = true := less_is (decide_eq_true hd.lt)
        have f2 : ((newsB a) == (newsB b)) = false := beq_is (decide_eq_false (fun e => by rw [e] at hd; exact List.lt_irrefl _ hd.lt))
        have g1 : (a.cast.rain.length : Int) < (b.cast.rain.length : Int) := by omega
        have g2 : ((a.cast.rain.length : Int) == (b.cast.rain.length : Int)) = false := by rw [beq_eq_false_iff_ne]; omega
        clear hd hla hlb hk1 hk2
        go_wp2_with fail
        go_ret
        exact ⟨rfl, HBz.out.trans (HBr.out.mono HBz.out.size)⟩
      · have hl2 : a.cast.rain.length = b.cast.rain.length := by omega
        have hab : a = b := news_ext HH.out (by have := HTK.out; rw [List.take_length, hl2, List.take_length] at this; exact this)
        have f1 : Op.bytesLess (newsB a) (newsB b) = false := less_is (by rw [hab]; exact decide_eq_false (List.lt_irrefl _))
        have f2 : ((newsB a) == (newsB b)) = true := beq_is (by rw [hab]; exact decide_eq_true rfl)
        have g1 : ¬ (a.cast.rain.length : Int) < (b.cast.rain.length : Int) := by omega
        have g2 : ((a.cast.rain.length : Int) == (b.cast.rain.length : Int)) = true := by rw [beq_iff_eq]; omega
        clear hab hl2 hla hlb hk1 hk2
        go_wp2_with fail
        go_ret
        exact ⟨rfl, HBz.out.trans (HBr.out.mono HBz.out.size)⟩
end Go.Proofs.Ytleiiedacachjaa
