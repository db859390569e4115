/- bournelaw03.small returns true. -/
import Derived.Test.YtonhaoieeefglaaDoorKat
namespace Go.Proofs.YtonhaoieeefglaaDoor
open Go.RowKit
set_option maxRecDepth 100000 in
set_option maxHeartbeats 1000000 in
theorem small_any (w : World) (hg : Glob w) :
    Calls Tryd.prog 9 #[] w fun e w' => e = .returned (.bool true) ∧ Below w.heap.size w w' := by
  have Hg := Lib.hid hg
  clear hg
  go_enter Tryd.func9, Tryd.ntmps9
  go_wp2_with fail
  refine (unhex_any _ _ (by decide)).mono ?_
  rintro e w1 ⟨rfl, hb1⟩
  rw [show unhexR ({ data := #[48, 65] } : ByteArray).data.toList = ([], false) from kat_up]
  have B1 := Lib.hid hb1
  clear hb1
  go_wp2_with fail
  refine (unhex_any _ _ (by decide)).mono ?_
  rintro e w2 ⟨rfl, hb2⟩
  rw [show unhexR ({ data := #[48, 97] } : ByteArray).data.toList = ([10], true) from kat_low]
  have B2 := Lib.hid (B1.out.trans (hb2.mono B1.out.size))
  clear hb2
  go_wp2_with fail
  refine (sum_any _ _ (Hg.out.below B2.out Hg.out.size) (by decide)).mono ?_
  rintro e w3 ⟨rfl, hb3⟩
  have B3 := Lib.hid (B2.out.trans (hb3.mono B2.out.size))
  clear hb3
  go_wp2_with fail
  refine (hex_any _ _ (by rw [show ({ data := (sumB ({ data := #[97, 98, 99] } : ByteArray).data.toList).toArray } : ByteArray).size = (sumB [97, 98, 99]).length from rfl, sumB_len]; decide)).mono ?_
  rintro e w4 ⟨rfl, hb4⟩
  have B4 := Lib.hid (B3.out.trans (hb4.mono B3.out.size))
  clear hb4
  rw [show hexL ({ data := (sumB ({ data := #[97, 98, 99] } : ByteArray).data.toList).toArray } : ByteArray).data.toList = _ from kat_abc]
  go_wp2_with fail
  refine (sum_any _ _ (Hg.out.below B4.out Hg.out.size) (by decide)).mono ?_
  rintro e w5 ⟨rfl, hb5⟩
  have B5 := Lib.hid (B4.out.trans (hb5.mono B4.out.size))
  clear hb5
  go_wp2_with fail
  refine (hex_any _ _ (by rw [show ({ data := (sumB ({ data := #[] } : ByteArray).data.toList).toArray } : ByteArray).size = (sumB []).length from rfl, sumB_len]; decide)).mono ?_
  rintro e w6 ⟨rfl, hb6⟩
  have B6 := Lib.hid (B5.out.trans (hb6.mono B5.out.size))
  clear hb6
  rw [show hexL ({ data := (sumB ({ data := #[] } : ByteArray).data.toList).toArray } : ByteArray).data.toList = _ from kat_nil]
  go_wp2_with fail
  refine (crc_any _ _ (by decide)).mono ?_
  rintro e w7 ⟨rfl, rfl⟩
  rw [show crcL ({ data := #[49, 50, 51, 52, 53, 54, 55, 56, 57] } : ByteArray).data.toList = 36974 from kat_crc]
  go_wp2_with fail
  refine (crc_any _ _ (by decide)).mono ?_
  rintro e w7 ⟨rfl, rfl⟩
  rw [show crcL ({ data := #[] } : ByteArray).data.toList = 0 from kat_crc0]
  go_wp2_with fail
  go_ret
  exact ⟨rfl, B6.out⟩
end Go.Proofs.YtonhaoieeefglaaDoor
