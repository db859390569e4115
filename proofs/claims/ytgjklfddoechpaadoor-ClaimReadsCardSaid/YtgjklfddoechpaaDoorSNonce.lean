/- sign.nonce. -/
import Derived.Test.YtgjklfddoechpaaDoorSChal
import Derived.Outline
namespace Go.Proofs.YtgjklfddoechpaaDoor
open Go.RowKit
def nonceL (r : Int) (c m : List UInt8) : List UInt8 := textL nonceB ++ (numL r ++ (textL c ++ textL m))
def nonceN (r : Int) (c m : List UInt8) : Nat := 1 + shortL (nonceL r c m) % (gQ - 1)
set_option maxRecDepth 100000 in
set_option maxHeartbeats 2000000 in
theorem nonce_any (r : Int) (c m : ByteArray) (w : World) (hr : I64 r) (hc : c.size ≤ 2000) (hm : m.size ≤ 2000) (hg : Glob w) (hml : MLen w) :
    Calls Tryd.prog 53 #[.int .i64 r, .string c, .string m] w fun e w' => e = .returned (.int .i64 (nonceN r c.data.toList m.data.toList : Nat)) ∧ Below w.heap.size w w' := by
  have HG := Lib.hid hg
  have HM := Lib.hid hml
  have HR := Lib.hid hr
  clear hg hml hr
  go_enter Tryd.func53, Tryd.ntmps53
  go_wp2_with fail
  refine (text_any ⟨#[110, 111, 110, 99, 101]⟩ _ (by decide) HM.out).mono ?_
  rintro e w1 ⟨rfl, hb⟩
  have HB1 := Lib.hid hb
  obtain ⟨t1, ht1⟩ : ∃ t1 : ByteArray, t1 = ⟨(textL (ByteArray.mk #[110, 111, 110, 99, 101]).data.toList).toArray⟩ := ⟨_, rfl⟩
  rw [← ht1]
  have HT1 := Lib.hid ht1
  clear hb ht1
  go_wp2_with fail
  refine (num_any r _ HR.out).mono ?_
  rintro e w2 ⟨rfl, hb⟩
  have HB2 := Lib.hid (HB1.out.trans (hb.mono HB1.out.size))
  obtain ⟨t2, ht2⟩ : ∃ t2 : ByteArray, t2 = ⟨(numL r).toArray⟩ := ⟨_, rfl⟩
  rw [← ht2]
  have HT2 := Lib.hid ht2
  clear hb ht2
  go_wp2_with fail
  refine (text_any c _ (by omega) (HM.out.up HB2.out)).mono ?_
  rintro e w4 ⟨rfl, hb⟩
  have HB4 := Lib.hid (HB2.out.trans (hb.mono HB2.out.size))
  obtain ⟨t4, ht4⟩ : ∃ t4 : ByteArray, t4 = ⟨(textL c.data.toList).toArray⟩ := ⟨_, rfl⟩
  rw [← ht4]
  have HT4 := Lib.hid ht4
  clear hb ht4
  go_wp2_with fail
  refine (text_any m _ (by omega) (HM.out.up HB4.out)).mono ?_
  rintro e w5 ⟨rfl, hb⟩
  have HB5 := Lib.hid (HB4.out.trans (hb.mono HB4.out.size))
  obtain ⟨t5, ht5⟩ : ∃ t5 : ByteArray, t5 = ⟨(textL m.data.toList).toArray⟩ := ⟨_, rfl⟩
  rw [← ht5]
  have HT5 := Lib.hid ht5
  clear hb ht5
  have HB6 := Lib.hid (HB5.out.alloc HB5.out.size (.cells #[.string t1, .string t2, .string t4, .string t5] 9))
  have HC6 := Lib.hid (heap_alloc_new w5 (.cells #[.string t1, .string t2, .string t4, .string t5] 9))
  have HF : Hid (([t1, t2, t4, t5].map (·.data.toList)).flatten = nonceL r c.data.toList m.data.toList) := Lib.hid (by
    rw [HT1.out, HT2.out, HT4.out, HT5.out]
    simp [nonceL, nonceB])
  have HLn : Hid ((([t1, t2, t4, t5].map (·.data.toList)).flatten).length ≤ 1000000) := Lib.hid (by
    rw [HF.out]
    unfold nonceL
    have a1 := textL_len nonceB
    have a2 := numL_len HR.out
    have a4 := textL_len c.data.toList
    have a5 := textL_len m.data.toList
    have b4 : c.data.toList.length ≤ 2000 := hc
    have b5 : m.data.toList.length ≤ 2000 := hm
    have b1 : nonceB.length = 5 := rfl
    simp only [List.length_append]
    omega)
  have hcl : Hid (∀ (j : Nat) x, [t1, t2, t4, t5][j]? = some x → (w5.alloc (.cells #[.string t1, .string t2, .string t4, .string t5] 9)).cell? ⟨w5.heap.size, 0 + j, none⟩ = some (.string x)) := Lib.hid (fun j x hj => by
    rw [Nat.zero_add]
    have h := cell_of_row _ _ j _ _ _ HC6.out
    rw [← Array.getElem?_toList] at h
    have h2 : ([t1, t2, t4, t5].map Value.string)[j]? = some (.string x) := by rw [List.getElem?_map, hj]; rfl
    exact h.trans h2)
  obtain ⟨z, hz⟩ : ∃ z, z = shortL (nonceL r c.data.toList m.data.toList) := ⟨_, rfl⟩
  have HZ := Lib.hid hz
  have HE : Hid (nonceN r c.data.toList m.data.toList = 1 + z % (gQ - 1)) := Lib.hid (by unfold nonceN; rw [hz])
  clear hz
  go_wp2_with fail
  refine (hash_any w5.heap.size [t1, t2, t4, t5] _ (HG.out.below HB6.out HG.out.size) hcl.out (blk_lt HC6.out) (show 4 ≤ 100 by decide) HLn.out).mono ?_
  rintro e w7 ⟨rfl, hb⟩
  rw [HF.out, ← HZ.out]
  have HB7 := Lib.hid (HB6.out.trans (hb.mono HB6.out.size))
  clear hb
  obtain ⟨y, hy⟩ : ∃ y, y = z % (gQ - 1) := ⟨_, rfl⟩
  have FY : (z : Int) % 1152921504606845788 = (y : Int) := by rw [hy]; exact (Int.natCast_emod z (gQ - 1)).symm
  have hyb : y < 1152921504606845788 := by rw [hy]; exact Nat.mod_lt _ (by decide)
  have HY := Lib.hid hy
  have hzb : z < 1152921504606846976 := by rw [HZ.out]; exact shortL_lt _
  have F1 : 1 + (z : Int) % 1152921504606845788 = ((1 + y : Nat) : Int) := by rw [FY]; omega
  clear hy
  go_wp2_with fail
  go_ret
  refine ⟨?_, HB7.out⟩
  rw [HE.out, ← HY.out]
  first | rfl | exact congrArg (fun v => Ending.returned (Value.int .i64 v)) F1 | exact congrArg (fun v => Ending.returned (Value.int .i64 v)) (F1.trans rfl)
end Go.Proofs.YtgjklfddoechpaaDoor
