/- bournelaw03.DigestTells returns true for all strings. -/
import Derived.Test.YtonhaoieeefglaaDoorSmall
import Derived.Test.YtonhaoieeefglaaDoorRefA
import Derived.Test.YtonhaoieeefglaaDoorRefC
import Derived.Test.YtonhaoieeefglaaDoorRefH
namespace Go.Proofs.YtonhaoieeefglaaDoor
open Go.RowKit
set_option maxRecDepth 100000 in
set_option maxHeartbeats 2000000 in
theorem tells_core (s h : ByteArray) (w : World) (hg : Glob w) (hs : s.size ≤ maxLen) (hh : h.size ≤ maxLen) :
    Calls Tryd.prog 7 #[.string s, .string h] w fun e w' => e = .returned (.bool true) ∧ Below w.heap.size w w' := by
  unfold maxLen at hs hh
  have Hg := Lib.hid hg
  clear hg
  by_cases g1 : 2000 < s.size
  · go_enter Tryd.func7, Tryd.ntmps7
    go_wp2_with fail
    refine (small_any _ Hg.out).mono ?_
    rintro e w1 ⟨rfl, hb⟩
    have HB := Lib.hid hb
    clear hb
    go_wp2_with fail
    go_ret
    exact ⟨rfl, HB.out⟩
  · by_cases g2 : 2000 < h.size
    · go_enter Tryd.func7, Tryd.ntmps7
      go_wp2_with fail
      refine (small_any _ Hg.out).mono ?_
      rintro e w1 ⟨rfl, hb⟩
      have HB := Lib.hid hb
      clear hb
      go_wp2_with fail
      go_ret
      exact ⟨rfl, HB.out⟩
    · go_enter Tryd.func7, Tryd.ntmps7
      go_wp2_with fail
      refine (small_any _ Hg.out).mono ?_
      rintro e w1 ⟨rfl, hb⟩
      have HB1 := Lib.hid hb
      clear hb
      go_wp2_with fail
      refine (unhex_any _ _ (by omega)).mono ?_
      rintro e w2 ⟨rfl, hb⟩
      have HB2 := Lib.hid (HB1.out.trans (hb.mono HB1.out.size))
      clear hb HB1
      go_wp2_with fail
      refine (runhex_any _ _ (by omega)).mono ?_
      rintro e w3 ⟨rfl, hb⟩
      have HB3 := Lib.hid (HB2.out.trans (hb.mono HB2.out.size))
      clear hb HB2
      generalize (unhexR h.data.toList).2 = ok
      generalize (⟨(unhexR h.data.toList).1.toArray⟩ : ByteArray) = U
      go_wp2_with fail
      refine (sum_any _ _ (Hg.out.below HB3.out Hg.out.size) (by omega)).mono ?_
      rintro e w4 ⟨rfl, hb⟩
      have HB4 := Lib.hid (HB3.out.trans (hb.mono HB3.out.size))
      clear hb HB3
      go_wp2_with fail
      refine (rsum_any _ _ (by omega)).mono ?_
      rintro e w5 ⟨rfl, hb⟩
      have HB5 := Lib.hid (HB4.out.trans (hb.mono HB4.out.size))
      clear hb HB4
      generalize (⟨(sumB s.data.toList).toArray⟩ : ByteArray) = D
      go_wp2_with fail
      refine (short_any _ _ (Hg.out.below HB5.out Hg.out.size) (by omega)).mono ?_
      rintro e w6 ⟨rfl, hb⟩
      have HB6 := Lib.hid (HB5.out.trans (hb.mono HB5.out.size))
      clear hb HB5
      go_wp2_with fail
      refine (rshort_any _ _ (by omega)).mono ?_
      rintro e w7 ⟨rfl, hb⟩
      have HB7 := Lib.hid (HB6.out.trans (hb.mono HB6.out.size))
      clear hb HB6
      generalize shortL s.data.toList = N
      go_wp2_with fail
      refine (crc_any _ _ (by unfold maxLen; omega)).mono ?_
      rintro e w8 ⟨rfl, rfl⟩
      go_wp2_with fail
      refine (rcrc_any _ _ (by unfold maxLen; omega)).mono ?_
      rintro e w8 ⟨rfl, rfl⟩
      generalize crcL s.data.toList = C
      go_wp2_with fail
      refine (hex_any _ _ (by omega)).mono ?_
      rintro e w8 ⟨rfl, hb⟩
      have HB8 := Lib.hid (HB7.out.trans (hb.mono HB7.out.size))
      clear hb HB7
      go_wp2_with fail
      refine (rhex_any _ _ (by omega)).mono ?_
      rintro e w9 ⟨rfl, hb⟩
      have HB9 := Lib.hid (HB8.out.trans (hb.mono HB8.out.size))
      clear hb HB8
      generalize (⟨(hexL s.data.toList).toArray⟩ : ByteArray) = X
      go_wp2_with fail
      go_ret
      exact ⟨rfl, HB9.out⟩
end Go.Proofs.YtonhaoieeefglaaDoor
