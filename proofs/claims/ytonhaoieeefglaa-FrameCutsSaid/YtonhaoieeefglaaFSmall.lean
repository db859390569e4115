/- bournelaw23.small returns true. -/
import Derived.Test.YtonhaoieeefglaaFSame
import Derived.Test.YtonhaoieeefglaaFKat
namespace Go.Proofs.Ytonhaoieeefglaa
open Go.RowKit
theorem toList_append (a b : ByteArray) : (a ++ b).data.toList = a.data.toList ++ b.data.toList := by
  rw [ByteArray.data_append, Array.toList_append]
set_option maxRecDepth 100000 in
set_option maxHeartbeats 2000000 in
theorem small_any (w : World) : Calls Try.prog 9 #[] w fun e w' => e = .returned (.bool true) ∧ Below w.heap.size w w' := by
  go_enter Try.func9, Try.ntmps9
  go_wp2_with fail
  refine (decode_any _ _ (by decide)).mono ?_
  rintro e w1 ⟨v1, rfl, hown1, hb1⟩
  rw [show decL ({ data := #[49, 126, 0, 0, 126, 0, 0, 126, 50] } : ByteArray).data.toList = [[], []] from kat1] at hown1
  rw [show restL ({ data := #[49, 126, 0, 0, 126, 0, 0, 126, 50] } : ByteArray).data.toList = [126, 50] from kat2]
  obtain ⟨g1, c1, rfl⟩ := ownsRow_succ (k := 1) hown1
  have HB1 := Lib.hid hb1
  clear hown1 hb1
  go_wp2_with fail
  refine (encode_any _ _ (by decide)).mono ?_
  rintro e w2 ⟨rfl, hb⟩
  have HB2 := Lib.hid (HB1.out.trans (hb.mono HB1.out.size))
  clear hb
  have hl := kat6
  rw [List.length_append, List.length_cons] at hl
  have hX1 : (⟨(encL ({ data := #[97, 126, 125] } : ByteArray).data.toList).toArray⟩ : ByteArray).size ≤ 100 := by
    show (encL [97, 126, 125]).length ≤ 100
    omega
  have HX1 : Hid ((⟨(encL ({ data := #[97, 126, 125] } : ByteArray).data.toList).toArray⟩ : ByteArray).data.toList = encL [97, 126, 125]) := rfl
  generalize (⟨(encL ({ data := #[97, 126, 125] } : ByteArray).data.toList).toArray⟩ : ByteArray) = X1 at *
  go_wp2_with fail
  refine (encode_any _ _ (by decide)).mono ?_
  rintro e w3 ⟨rfl, hb⟩
  have HB3 := Lib.hid (HB2.out.trans (hb.mono HB2.out.size))
  clear hb
  have hX2 : (⟨(encL ({ data := #[98] } : ByteArray).data.toList).toArray⟩ : ByteArray).size ≤ 100 := by
    show (encL [98]).length ≤ 100
    omega
  have HX2 : Hid ((⟨(encL ({ data := #[98] } : ByteArray).data.toList).toArray⟩ : ByteArray).data.toList = encL [98]) := rfl
  generalize (⟨(encL ({ data := #[98] } : ByteArray).data.toList).toArray⟩ : ByteArray) = X2 at *
  clear hl
  go_wp2_with fail
  refine (decode_any _ _ ?hsz).mono ?_
  case hsz =>
    rw [ByteArray.size_append, ByteArray.size_append]
    show 1 + X1.size + X2.size ≤ 100000
    omega
  rintro e w4 ⟨v4, rfl, hown4, hb4⟩
  have hst : (({ data := #[120] } : ByteArray) ++ X1 ++ X2).data.toList = (120 :: encL [97, 126, 125]) ++ encL [98] := by
    rw [toList_append, toList_append, HX1.out, HX2.out]
    rfl
  rw [hst, kat4] at hown4
  rw [hst, kat5]
  have hS4 := SlOf.of_owns (n := 2) rfl hown4
  have HS4 := Lib.hid hS4
  have HB4 := Lib.hid (HB3.out.trans (hb4.mono HB3.out.size))
  clear hown4 hb4 hst hS4 hX1 hX2 HX1 HX2
  go_wp2_with fail
  refine (encode_any _ _ (by decide)).mono ?_
  rintro e w5 ⟨rfl, hb⟩
  have HB5 := Lib.hid (HB4.out.trans (hb.mono HB4.out.size))
  have HS5 := Lib.hid (HS4.out.below hb (Nat.le_refl _))
  clear hb
  rw [show encL ({ data := #[] } : ByteArray).data.toList = [126, 0, 0, 126] from kat3]
  go_wp2_with fail
  have hS6 : SlOf (.slice (some ⟨w5.heap.size, 0, none⟩) 2 2) [⟨#[97, 126, 125]⟩, ⟨#[98]⟩] (w5.alloc (.cells #[.string ⟨#[97, 126, 125]⟩, .string ⟨#[98]⟩] 9)) := by
    refine ⟨_, 2, rfl, Or.inr ⟨w5.heap.size, rfl, by simp, fun j x hj => ?_⟩⟩
    rw [cell_of_row _ _ _ _ _ _ (heap_alloc_new w5 _)]
    match j, hj with
    | 0, hj => simp at hj; subst hj; rfl
    | 1, hj => simp at hj; subst hj; rfl
  have hA : Below w5.heap.size w5 (w5.alloc (.cells #[.string ⟨#[97, 126, 125]⟩, .string ⟨#[98]⟩] 9)) := (Below.refl _ _).alloc (Nat.le_refl _) _
  refine (same_any _ _ _ _ _ (HS5.out.below hA (Nat.le_refl _)) hS6 (by simp [strB]) (by simp)).mono ?_
  rintro e w6 ⟨rfl, m, rfl⟩
  rw [show decide (strB [[97, 126, 125], [98]] = [⟨#[97, 126, 125]⟩, ⟨#[98]⟩]) = true from by decide]
  have HB6 := Lib.hid (below_drewN (n := m) (HB5.out.alloc HB5.out.size (.cells #[.string ⟨#[97, 126, 125]⟩, .string ⟨#[98]⟩] 9)))
  clear hS6 hA
  go_wp2_with fail
  go_ret
  exact ⟨rfl, HB6.out⟩
end Go.Proofs.Ytonhaoieeefglaa
