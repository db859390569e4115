/- bourneref05: Challenge, Element, Ranges. -/
import Derived.Test.YtgjklfddoechpaaGreatDoorSRef4
import Derived.Test.YtgjklfddoechpaaGreatDoorSLaw
import Derived.Test.YtgjklfddoechpaaGreatDoorWRefA
import Derived.Test.YtgjklfddoechpaaGreatDoorRefH
import Derived.Outline
namespace Go.Proofs.YtgjklfddoechpaaGreatDoor
open Go.RowKit
theorem cat_bytes (a b : ByteArray) : (a ++ b).data.toList = a.data.toList ++ b.data.toList := by simp
set_option maxRecDepth 100000 in
set_option maxHeartbeats 2000000 in
theorem rchal_any (r p : Int) (c m : ByteArray) (w : World) (hr : I64 r) (hp : I64 p) (hc : c.size ≤ 2000) (hm : m.size ≤ 2000) :
    Calls Tryz.prog 33 #[.int .i64 r, .int .i64 p, .string c, .string m] w fun e w' => e = .returned (.int .i64 (chalN r p c.data.toList m.data.toList : Nat)) ∧ Below w.heap.size w w' := by
  obtain ⟨t1, ht1⟩ : ∃ t : ByteArray, t = ⟨(textL (ByteArray.mk #[115, 105, 103, 110]).data.toList).toArray⟩ := ⟨_, rfl⟩
  obtain ⟨t2, ht2⟩ : ∃ t : ByteArray, t = ⟨(numL r).toArray⟩ := ⟨_, rfl⟩
  obtain ⟨t3, ht3⟩ : ∃ t : ByteArray, t = ⟨(numL p).toArray⟩ := ⟨_, rfl⟩
  obtain ⟨t4, ht4⟩ : ∃ t : ByteArray, t = ⟨(textL c.data.toList).toArray⟩ := ⟨_, rfl⟩
  obtain ⟨t5, ht5⟩ : ∃ t : ByteArray, t = ⟨(textL m.data.toList).toArray⟩ := ⟨_, rfl⟩
  have l1 : t1.size ≤ 10 := by
    have h := textL_len signB
    have h2 : t1.data.toList.length ≤ 10 := by rw [ht1]; show (textL signB).length ≤ 10; have b1 : signB.length = 4 := rfl; omega
    exact h2
  have l2 : t2.size ≤ 9 := by
    have h := numL_len hr
    have h2 : t2.data.toList.length ≤ 9 := by rw [ht2]; exact h
    exact h2
  have l3 : t3.size ≤ 9 := by
    have h := numL_len hp
    have h2 : t3.data.toList.length ≤ 9 := by rw [ht3]; exact h
    exact h2
  have l4 : t4.size ≤ 4002 := by
    have h := textL_len c.data.toList
    have b4 : c.data.toList.length ≤ 2000 := hc
    have h2 : t4.data.toList.length ≤ 4002 := by rw [ht4]; show (textL c.data.toList).length ≤ 4002; omega
    exact h2
  have l5 : t5.size ≤ 4002 := by
    have h := textL_len m.data.toList
    have b4 : m.data.toList.length ≤ 2000 := hm
    have h2 : t5.data.toList.length ≤ 4002 := by rw [ht5]; show (textL m.data.toList).length ≤ 4002; omega
    exact h2
  have HR := Lib.hid hr
  have HP := Lib.hid hp
  have HT1 := Lib.hid ht1
  have HT2 := Lib.hid ht2
  have HT3 := Lib.hid ht3
  have HT4 := Lib.hid ht4
  have HT5 := Lib.hid ht5
  have HC := Lib.hid hc
  have HM := Lib.hid hm
  have HF : Hid ((t1 ++ t2 ++ t3 ++ t4 ++ t5).data.toList = chalB r p c.data.toList m.data.toList) := Lib.hid (by
    rw [cat_bytes, cat_bytes, cat_bytes, cat_bytes, ht1, ht2, ht3, ht4, ht5]
    simp [chalB, signB])
  have HLn : Hid ((t1 ++ t2 ++ t3 ++ t4 ++ t5).size ≤ 12000) := Lib.hid (by
    rw [ByteArray.size_append, ByteArray.size_append, ByteArray.size_append, ByteArray.size_append]; omega)
  have n1 : ¬ 9223372036854775807 < t1.size + t2.size := by omega
  have n2 : ¬ 9223372036854775807 < t1.size + t2.size + t3.size := by omega
  have n3 : ¬ 9223372036854775807 < t1.size + t2.size + t3.size + t4.size := by omega
  have n4 : ¬ 9223372036854775807 < t1.size + t2.size + t3.size + t4.size + t5.size := by omega
  clear hr hp ht1 ht2 ht3 ht4 ht5 hc hm l1 l2 l3 l4 l5
  obtain ⟨z, hz⟩ : ∃ z, z = shortL (chalB r p c.data.toList m.data.toList) := ⟨_, rfl⟩
  have HZ := Lib.hid hz
  have HE : Hid (chalN r p c.data.toList m.data.toList = z % gQ) := Lib.hid (by unfold chalN; rw [hz])
  clear hz
  go_enter Tryz.func33, Tryz.ntmps33
  go_wp2_with fail
  refine (rtext_any ⟨#[115, 105, 103, 110]⟩ _ (by decide)).mono ?_
  rintro e w1 ⟨rfl, hb⟩
  rw [← HT1.out]
  have HB1 := Lib.hid hb
  clear hb
  go_wp2_with fail
  refine (rnum_any r _ HR.out).mono ?_
  rintro e w2 ⟨rfl, hb⟩
  rw [← HT2.out]
  have HB2 := Lib.hid (HB1.out.trans (hb.mono HB1.out.size))
  clear hb
  go_wp2_with fail
  refine (rnum_any p _ HP.out).mono ?_
  rintro e w3 ⟨rfl, hb⟩
  rw [← HT3.out]
  have HB3 := Lib.hid (HB2.out.trans (hb.mono HB2.out.size))
  clear hb
  go_wp2_with fail
  refine (rtext_any c _ (by have := HC.out; omega)).mono ?_
  rintro e w4 ⟨rfl, hb⟩
  rw [← HT4.out]
  have HB4 := Lib.hid (HB3.out.trans (hb.mono HB3.out.size))
  clear hb
  go_wp2_with fail
  refine (rtext_any m _ (by have := HM.out; omega)).mono ?_
  rintro e w5 ⟨rfl, hb⟩
  rw [← HT5.out]
  have HB5 := Lib.hid (HB4.out.trans (hb.mono HB4.out.size))
  clear hb
  go_wp2_with fail
  refine (rshort_any (t1 ++ t2 ++ t3 ++ t4 ++ t5) _ HLn.out).mono ?_
  rintro e w7 ⟨rfl, hb⟩
  rw [HF.out, ← HZ.out]
  have HB7 := Lib.hid (HB5.out.trans (hb.mono HB5.out.size))
  clear hb
  obtain ⟨y, hy⟩ : ∃ y, y = z % gQ := ⟨_, rfl⟩
  have FY : (z : Int) % 1152921504606845789 = (y : Int) := by rw [hy]; exact (Int.natCast_emod z gQ).symm
  have HY := Lib.hid hy
  have hzb : z < 1152921504606846976 := by rw [HZ.out]; exact shortL_lt _
  clear hy
  go_wp2_with fail
  go_ret
  refine ⟨?_, HB7.out⟩
  rw [HE.out, ← HY.out]
  first | rfl | exact congrArg (fun v => Ending.returned (Value.int .i64 v)) FY
set_option maxRecDepth 100000 in
set_option maxHeartbeats 2000000 in
/-- the element of a signature in range -/
theorem relem_any (p E S : Int) (w : World) (hI : InG p) (hE : 0 ≤ E ∧ E < 1152921504606845789) (hS : 0 ≤ S ∧ S < 1152921504606845789) :
    Calls Tryz.prog 32 #[.int .i64 p, .agg #[.int .i64 E, .int .i64 S]] w fun e w' => e = .returned (.int .i64 (elemN p E S : Nat)) ∧ Below w.heap.size w w' := by
  have HZ := Lib.hid (heap_alloc_new w (.cells #[.int .i64 E, .int .i64 S] 23))
  have HB := Lib.hid ((Below.refl w.heap.size w).alloc (Nat.le_refl _) (.cells #[.int .i64 E, .int .i64 S] 23))
  have hp : I64 p := ⟨by have := hI.1; omega, by have := hI.2.1; omega⟩
  obtain ⟨J, hJ⟩ : ∃ J : Int → Int → Int, J = fun a e => ((resN a gP ^ e.toNat % gP : Nat) : Int) := ⟨_, rfl⟩
  obtain ⟨M, hM⟩ : ∃ M : Int → Int → Int, M = fun a b => ((mulN a b gP : Nat) : Int) := ⟨_, rfl⟩
  obtain ⟨q, hq⟩ : ∃ q : Int, q = 1152921504606845789 - E := ⟨_, rfl⟩
  have HJ : Hid (∀ a e n, I64 a ∧ 0 ≤ e ∧ e ≤ 9223372036854775807 → Calls Tryz.prog 68 #[.int .i64 a, .int .i64 e] n fun e' w' => e' = .returned (.int .i64 (J a e)) ∧ ∃ k, w' = n.drewN k) := Lib.hid (fun a e n h => by
    rw [hJ]
    exact (rexp_any a e n h.1 h.2).mono fun e' w' h2 => ⟨h2.1, 0, h2.2⟩)
  have HU : Hid (∀ a b n, I64 a ∧ I64 b → Calls Tryz.prog 67 #[.int .i64 a, .int .i64 b] n fun e' w' => e' = .returned (.int .i64 (M a b)) ∧ ∃ k, w' = n.drewN k) := Lib.hid (fun a b n h => by
    rw [hM]
    exact (rmul_any a b n h.1 h.2).mono fun e' w' h2 => ⟨h2.1, 0, h2.2⟩)
  have e1 : J 4 S = ((4 ^ S.toNat % gP : Nat) : Int) := by rw [hJ]; show ((resN 4 gP ^ S.toNat % gP : Nat) : Int) = _; rw [res4]
  have e2 : J p q = ((p.toNat ^ (gQ - E.toNat) % gP : Nat) : Int) := by
    rw [hJ]
    show ((resN p gP ^ q.toNat % gP : Nat) : Int) = _
    rw [resN_in hI.1 hI.2.1]
    have e : q.toNat = gQ - E.toNat := by show q.toNat = 1152921504606845789 - E.toNat; omega
    rw [e]
  have e3 : M (J 4 S) (J p q) = ((elemN p E S : Nat) : Int) := by
    rw [e1, e2, hM]
    show ((mulN _ _ gP : Nat) : Int) = _
    rw [mulN_nat (m := gP) (lt_p _) (lt_p _)]
    rfl
  have B1 : Hid (I64 (4 : Int) ∧ 0 ≤ S ∧ S ≤ 9223372036854775807) := Lib.hid ⟨⟨by omega, by omega⟩, by omega, by omega⟩
  have B2 : Hid (I64 p ∧ 0 ≤ q ∧ q ≤ 9223372036854775807) := Lib.hid ⟨hp, by omega, by omega⟩
  have B3 : Hid (I64 (J 4 S) ∧ I64 (J p q)) := Lib.hid (by
    rw [e1, e2]
    have a1 : 4 ^ S.toNat % gP < 2305843009213691579 := lt_p _
    have a2 : p.toNat ^ (gQ - E.toNat) % gP < 2305843009213691579 := lt_p _
    generalize 4 ^ S.toNat % gP = z1 at *
    generalize p.toNat ^ (gQ - E.toNat) % gP = z2 at *
    exact ⟨⟨by omega, by omega⟩, ⟨by omega, by omega⟩⟩)
  have H3 := Lib.hid e3
  have hq2 : 1152921504606845789 - E = q := hq.symm
  have hqb : 0 ≤ q ∧ q ≤ 1152921504606845789 := ⟨by omega, by omega⟩
  rw [← e3]
  clear e1 e2 e3 hJ hM hI hp hq
  go_enter Tryz.func32, Tryz.ntmps32
  go_upto_region 1 with fail
  generalize w.alloc (.cells #[.int .i64 E, .int .i64 S] 23) = w1 at *
  have c0 : w1.cell? ⟨w.heap.size, 0, none⟩ = some (.int .i64 E) := (cell_of_row _ _ _ _ _ _ HZ.out).trans rfl
  have c1 : w1.cell? ⟨w.heap.size, 1, none⟩ = some (.int .i64 S) := (cell_of_row _ _ _ _ _ _ HZ.out).trans rfl
  go_quiet ((first | (go_at_call 68; exact Calls.quiet_of (HJ.out _ _ _ (by first | exact B1.out | exact B2.out))) | (go_at_call 67; exact Calls.quiet_of (HU.out _ _ _ B3.out))))
  go_wp2_with fail
  go_ret
  exact ⟨rfl, below_drewN HB.out⟩
end Go.Proofs.YtgjklfddoechpaaGreatDoor
