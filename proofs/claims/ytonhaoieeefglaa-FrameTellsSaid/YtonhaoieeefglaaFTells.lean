/- bournelaw23.FrameTells returns true for all payloads and all streams. -/
import Derived.Test.YtonhaoieeefglaaFRDec
import Derived.Test.YtonhaoieeefglaaFOnly
namespace Go.Proofs.Ytonhaoieeefglaa
open Go.RowKit
set_option maxRecDepth 100000 in
set_option maxHeartbeats 4000000 in
theorem tells_core (s t : ByteArray) (w : World) (hs : s.size ≤ maxLen) (ht : t.size ≤ maxLen) :
    Calls Try.prog 3 #[.string s, .string t] w fun e w' => e = .returned (.bool true) ∧ Below w.heap.size w w' := by
  unfold maxLen at hs ht
  by_cases g1 : 6000 < s.size
  · go_enter Try.func3, Try.ntmps3
    go_wp2_with fail
    refine (small_any _).mono ?_
    rintro e w1 ⟨rfl, hb⟩
    have HB := Lib.hid hb
    clear hb
    go_wp2_with fail
    go_ret
    exact ⟨rfl, HB.out⟩
  · by_cases g2 : 6000 < t.size
    · go_enter Try.func3, Try.ntmps3
      go_wp2_with fail
      refine (small_any _).mono ?_
      rintro e w1 ⟨rfl, hb⟩
      have HB := Lib.hid hb
      clear hb
      go_wp2_with fail
      go_ret
      exact ⟨rfl, HB.out⟩
    · go_enter Try.func3, Try.ntmps3
      go_wp2_with fail
      refine (small_any _).mono ?_
      rintro e w1 ⟨rfl, hb⟩
      have HB := Lib.hid hb
      clear hb
      go_wp2_with fail
      refine (decode_any t _ (by omega)).mono ?_
      rintro e w2 ⟨v1, rfl, hown1, hb⟩
      have HB2 := Lib.hid (HB.out.trans (hb.mono HB.out.size))
      have HS1 := Lib.hid (SlOf.of_owns rfl hown1)
      clear hown1 hb
      go_wp2_with fail
      refine (rdecode_any t _ (by omega)).mono ?_
      rintro e w3 ⟨v2, rfl, hown2, hb⟩
      have HB3 := Lib.hid (HB2.out.trans (hb.mono HB2.out.size))
      have HS2 := Lib.hid (SlOf.of_owns rfl hown2)
      have HS3 := Lib.hid (HS1.out.below hb (Nat.le_refl _))
      clear hown2 hb
      have hl : (strB (decL t.data.toList)).length ≤ 1000000 := by
        have h1 := dec_len t.data.toList
        have h2 : t.data.toList.length = t.size := by simp
        unfold strB
        rw [List.length_map]
        omega
      go_wp2_with fail
      refine (same_any v1 v2 _ _ _ HS3.out HS2.out hl hl).mono ?_
      rintro e w4 ⟨rfl, k, rfl⟩
      rw [decide_eq_true rfl]
      have HB4 : Hid (Below w.heap.size w (w3.drewN k)) := Lib.hid (below_drewN HB3.out)
      generalize w3.drewN k = w4 at *
      go_wp2_with fail
      refine (encode_any s _ (by omega)).mono ?_
      rintro e w5 ⟨rfl, hb⟩
      have HB5 := Lib.hid (HB4.out.trans (hb.mono HB4.out.size))
      clear hb
      go_wp2_with fail
      refine (rencode_any s _ (by omega)).mono ?_
      rintro e w6 ⟨rfl, hb⟩
      have HB6 := Lib.hid (HB5.out.trans (hb.mono HB5.out.size))
      clear hb
      go_wp2_with fail
      go_ret
      exact ⟨rfl, HB6.out⟩
end Go.Proofs.Ytonhaoieeefglaa
