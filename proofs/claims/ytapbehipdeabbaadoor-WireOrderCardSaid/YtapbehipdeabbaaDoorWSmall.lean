/- bournelaw02.small returns true; bournelaw02.begins. -/
import Derived.Test.YtapbehipdeabbaaDoorWList
import Derived.Test.YtapbehipdeabbaaDoorWOps
namespace Go.Proofs.YtapbehipdeabbaaDoor
open Go.RowKit
theorem mlen_after {w w' : World} (h : MLen w) (hb : Below w.heap.size w w') : MLen w' := h.up hb
set_option maxRecDepth 100000 in
set_option maxHeartbeats 2000000 in
theorem small_any (w : World) (hm : MLen w) : Calls Tryd.prog 8 #[] w fun e w' => e = .returned (.bool true) ∧ Below w.heap.size w w' := by
  have HM := Lib.hid hm
  clear hm
  go_enter Tryd.func8, Tryd.ntmps8
  go_wp2_with fail
  refine (open_any _ _ (by decide)).mono ?_
  rintro e w1 ⟨rfl, hr1, hb1⟩
  have HR1 := Lib.hid hr1
  have HB1 := Lib.hid hb1
  obtain ⟨g1, hg1⟩ : ∃ g1, g1 = w.heap.size := ⟨_, rfl⟩
  rw [← hg1] at HR1 ⊢
  have HG1 := Lib.hid hg1
  clear hr1 hb1 hg1
  go_wp2_with fail
  refine (rdNum_any g1 _ _ HR1.out).mono ?_
  rintro e w2 ⟨rfl, hr2, hg2⟩
  rw [show opNum (some ({ data := #[129, 5, 126, 97, 0, 1] } : ByteArray).data.toList) = (5, some [126, 97, 0, 1]) from kat1]
  have HB2 : Hid (Below w.heap.size w w2) := Lib.hid (HB1.out.grown hg2 HB1.out.size (fun k e => by cases e; rw [HG1.out]; exact Nat.le_refl _))
  clear hr2 hg2
  go_wp2_with fail
  refine (open_any _ _ (by decide)).mono ?_
  rintro e w3 ⟨rfl, hr3, hb3⟩
  have HR3 := Lib.hid hr3
  have HB3 : Hid (Below w.heap.size w w3) := Lib.hid (HB2.out.trans (hb3.mono HB2.out.size))
  have hge := HB2.out.size
  obtain ⟨g3, hg3⟩ : ∃ g3, g3 = w2.heap.size := ⟨_, rfl⟩
  rw [← hg3] at HR3 hge ⊢
  clear hr3 hb3 hg3
  go_wp2_with fail
  refine (rdInt_any g3 _ _ HR3.out).mono ?_
  rintro e w4 ⟨rfl, hr4, hg4⟩
  rw [show opInt (some ({ data := #[127] } : ByteArray).data.toList) = (-1, some []) from kat2] at hr4 ⊢
  have HB4 : Hid (Below w.heap.size w w4) := Lib.hid (HB3.out.grown hg4 HB3.out.size (fun k e => by cases e; exact hge))
  have HR4 := Lib.hid hr4
  clear hr4 hg4 hge
  go_wp2_with fail
  refine (rdDone_any g3 _ _ HR4.out).mono ?_
  rintro e w' ⟨rfl, rfl⟩
  rw [show doneOf (some []) = true from rfl]
  go_wp2_with fail
  refine (num_any 256 _ (by unfold I64; omega)).mono ?_
  rintro e w5 ⟨rfl, hb⟩
  rw [numL_256]
  have HB5 : Hid (Below w.heap.size w w5) := Lib.hid (HB4.out.trans (hb.mono HB4.out.size))
  clear hb
  go_wp2_with fail
  refine (int_any (-2) _ (by unfold I64; omega)).mono ?_
  rintro e w6 ⟨rfl, hb⟩
  rw [intL_m2]
  have HB6 : Hid (Below w.heap.size w w6) := Lib.hid (HB5.out.trans (hb.mono HB5.out.size))
  clear hb
  go_wp2_with fail
  refine (text_any _ _ (by decide) (HM.out.up HB6.out)).mono ?_
  rintro e w7 ⟨rfl, hb⟩
  rw [show textL ({ data := #[97] } : ByteArray).data.toList = [97, 0, 1] from kat3]
  have HB7 : Hid (Below w.heap.size w w7) := Lib.hid (HB6.out.trans (hb.mono HB6.out.size))
  clear hb
  go_wp2_with fail
  refine (num_any (-1) _ (by unfold I64; omega)).mono ?_
  rintro e w8 ⟨rfl, hb⟩
  rw [numL_m1]
  have HB8 : Hid (Below w.heap.size w w8) := Lib.hid (HB7.out.trans (hb.mono HB7.out.size))
  clear hb
  go_wp2_with fail
  go_ret
  exact ⟨rfl, HB8.out⟩
theorem bytes_eq {s t : ByteArray} (h : s.toList = t.toList) : s = t := by
  rw [ByteArray.toList_eq, ByteArray.toList_eq] at h
  cases s; cases t; simp at h; rw [h]
set_option maxRecDepth 100000 in
set_option maxHeartbeats 1000000 in
theorem begins_any (s t : ByteArray) (w : World) (_hs : s.size ≤ 1000000000) :
    Calls Tryd.prog 23 #[.string s, .string t] w fun e w' => e = .returned (.bool (decide (t.data.toList <+: s.data.toList))) ∧ w = w' := by
  have hsl : s.data.toList.length = s.size := by simp
  have htl : t.data.toList.length = t.size := by simp
  by_cases hlt : t.size ≤ s.size
  · have e0 : (s.extract 0 t.size).toList = (s.data.toList.take t.size) := by rw [ByteArray.toList_eq, take_toList]
    have e1 : t.toList = t.data.toList := ByteArray.toList_eq _
    have HE : Hid (decide (t.data.toList <+: s.data.toList) = ((s.extract 0 t.size).toList == t.toList)) := by
      refine Lib.hid ?_
      rw [e0, e1, Bool.eq_iff_iff, decide_eq_true_eq, beq_iff_eq, List.prefix_iff_eq_take, htl]
      exact eq_comm
    clear e0 e1 hsl htl
    rw [HE.out]
    go_enter Tryd.func23, Tryd.ntmps23
    go_wp2_with fail
    go_ret
    exact ⟨rfl, rfl⟩
  · have HE : Hid (decide (t.data.toList <+: s.data.toList) = false) := by
      refine Lib.hid (decide_eq_false (fun h => ?_))
      have := h.length_le
      omega
    have hlt2 : decide ((t.size : Int) ≤ (s.size : Int)) = false := by simp; omega
    have hlt3 : decide (t.size ≤ s.size) = false := by simp; omega
    clear hsl htl
    rw [HE.out]
    go_enter Tryd.func23, Tryd.ntmps23
    go_wp2_with fail
    go_ret
    exact ⟨rfl, rfl⟩
end Go.Proofs.YtapbehipdeabbaaDoor
