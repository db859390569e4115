/- Texts merged: SChal SNonce SKey SRight SKeyA -/
import Derived.Outline
import Derived.Test.YtepidpegoihllaaGreatDoorSHash
import Derived.Laws.Rows
/- sign.challenge and sign.nonce. -/
namespace Go.Proofs.YtepidpegoihllaaGreatDoor
open Go.RowKit
def signB : List UInt8 := [115, 105, 103, 110]
def nonceB : List UInt8 := [110, 111, 110, 99, 101]
/-- what a challenge hashes -/
def chalB (r p : Int) (c m : List UInt8) : List UInt8 := textL signB ++ (numL r ++ (numL p ++ (textL c ++ textL m)))
def chalN (r p : Int) (c m : List UInt8) : Nat := shortL (chalB r p c m) % gQ
theorem numL_len {n : Int} (h : I64 n) : (numL n).length ≤ 9 := by
  unfold numL
  split
  · exact Nat.zero_le _
  · exact (intL_len h).2
theorem shortL_lt (l : List UInt8) : shortL l < 1152921504606846976 := by
  unfold shortL
  have := topN_lt (sumB l) 8
  have e : (256 : Nat) ^ 8 = 18446744073709551616 := by decide
  generalize topN (sumB l) 8 = q at *
  omega
set_option maxRecDepth 100000 in
set_option maxHeartbeats 2000000 in
theorem chal_any (r p : Int) (c m : ByteArray) (w : World) (hr : I64 r) (hp : I64 p) (hc : c.size ≤ 2000) (hm : m.size ≤ 10000000) (hg : Glob w) (hml : MLen w) :
    Calls Tryz.prog 78 #[.int .i64 r, .int .i64 p, .string c, .string m] w fun e w' => e = .returned (.int .i64 (chalN r p c.data.toList m.data.toList : Nat)) ∧ Below w.heap.size w w' := by
  have HG := Lib.hid hg
  have HM := Lib.hid hml
  have HR := Lib.hid hr
  have HP := Lib.hid hp
  clear hg hml hr hp
  go_enter Tryz.func78, Tryz.ntmps78
  go_wp2_with fail
  refine (text_any ⟨#[115, 105, 103, 110]⟩ _ (by decide) HM.out).mono ?_
  rintro e w1 ⟨rfl, hb⟩
  have HB1 := Lib.hid hb
  obtain ⟨t1, ht1⟩ : ∃ t1 : ByteArray, t1 = ⟨(textL (ByteArray.mk #[115, 105, 103, 110]).data.toList).toArray⟩ := ⟨_, rfl⟩
  rw [← ht1]
  have HT1 := Lib.hid ht1
  clear hb ht1
  go_wp2_with fail
  refine (num_any r _ HR.out).mono ?_
  rintro e w2 ⟨rfl, hb⟩
  have HB2 := Lib.hid (HB1.out.trans (hb.mono HB1.out.size))
  obtain ⟨t2, ht2⟩ : ∃ t2 : ByteArray, t2 = ⟨(numL r).toArray⟩ := ⟨_, rfl⟩
  rw [← ht2]
  have HT2 := Lib.hid ht2
  clear hb ht2
  go_wp2_with fail
  refine (num_any p _ HP.out).mono ?_
  rintro e w3 ⟨rfl, hb⟩
  have HB3 := Lib.hid (HB2.out.trans (hb.mono HB2.out.size))
  obtain ⟨t3, ht3⟩ : ∃ t3 : ByteArray, t3 = ⟨(numL p).toArray⟩ := ⟨_, rfl⟩
  rw [← ht3]
  have HT3 := Lib.hid ht3
  clear hb ht3
  go_wp2_with fail
  refine (text_any c _ (by omega) (HM.out.up HB3.out)).mono ?_
  rintro e w4 ⟨rfl, hb⟩
  have HB4 := Lib.hid (HB3.out.trans (hb.mono HB3.out.size))
  obtain ⟨t4, ht4⟩ : ∃ t4 : ByteArray, t4 = ⟨(textL c.data.toList).toArray⟩ := ⟨_, rfl⟩
  rw [← ht4]
  have HT4 := Lib.hid ht4
  clear hb ht4
  go_wp2_with fail
  refine (text_any m _ (by omega) (HM.out.up HB4.out)).mono ?_
  rintro e w5 ⟨rfl, hb⟩
  have HB5 := Lib.hid (HB4.out.trans (hb.mono HB4.out.size))
  obtain ⟨t5, ht5⟩ : ∃ t5 : ByteArray, t5 = ⟨(textL m.data.toList).toArray⟩ := ⟨_, rfl⟩
  rw [← ht5]
  have HT5 := Lib.hid ht5
  clear hb ht5
  have HB6 := Lib.hid (HB5.out.alloc HB5.out.size (.cells #[.string t1, .string t2, .string t3, .string t4, .string t5] 9))
  have HC6 := Lib.hid (heap_alloc_new w5 (.cells #[.string t1, .string t2, .string t3, .string t4, .string t5] 9))
  have HF : Hid (([t1, t2, t3, t4, t5].map (·.data.toList)).flatten = chalB r p c.data.toList m.data.toList) := Lib.hid (by
    rw [HT1.out, HT2.out, HT3.out, HT4.out, HT5.out]
    simp [chalB, signB])
  have HLn : Hid ((([t1, t2, t3, t4, t5].map (·.data.toList)).flatten).length ≤ 100000000) := Lib.hid (by
    rw [HF.out]
    unfold chalB
    have a1 := textL_len signB
    have a2 := numL_len HR.out
    have a3 := numL_len HP.out
    have a4 := textL_len c.data.toList
    have a5 := textL_len m.data.toList
    have b4 : c.data.toList.length ≤ 2000 := hc
    have b5 : m.data.toList.length ≤ 10000000 := hm
    have b1 : signB.length = 4 := rfl
    simp only [List.length_append]
    omega)
  have hcl : Hid (∀ (j : Nat) x, [t1, t2, t3, t4, t5][j]? = some x → (w5.alloc (.cells #[.string t1, .string t2, .string t3, .string t4, .string t5] 9)).cell? ⟨w5.heap.size, 0 + j, none⟩ = some (.string x)) := Lib.hid (fun j x hj => by
    rw [Nat.zero_add]
    have h := cell_of_row _ _ j _ _ _ HC6.out
    rw [← Array.getElem?_toList] at h
    have h2 : ([t1, t2, t3, t4, t5].map Value.string)[j]? = some (.string x) := by rw [List.getElem?_map, hj]; rfl
    exact h.trans h2)
  obtain ⟨z, hz⟩ : ∃ z, z = shortL (chalB r p c.data.toList m.data.toList) := ⟨_, rfl⟩
  have HZ := Lib.hid hz
  have HE : Hid (chalN r p c.data.toList m.data.toList = z % gQ) := Lib.hid (by unfold chalN; rw [hz])
  clear hz
  go_wp2_with fail
  refine (hash_any w5.heap.size [t1, t2, t3, t4, t5] _ (HG.out.below HB6.out HG.out.size) hcl.out (blk_lt HC6.out) (show 5 ≤ 100 by decide) HLn.out).mono ?_
  rintro e w7 ⟨rfl, hb⟩
  rw [HF.out, ← HZ.out]
  have HB7 := Lib.hid (HB6.out.trans (hb.mono HB6.out.size))
  clear hb
  obtain ⟨y, hy⟩ : ∃ y, y = z % gQ := ⟨_, rfl⟩
  have FY : (z : Int) % 1152921504606845789 = (y : Int) := by rw [hy]; exact (Int.natCast_emod z gQ).symm
  have HY := Lib.hid hy
  have hzb : z < 1152921504606846976 := by rw [HZ.out]; exact shortL_lt _
  clear hy
  go_wp2_with fail
  go_ret
  refine ⟨?_, HB7.out⟩
  rw [HE.out, ← HY.out]
  first | rfl | exact congrArg (fun v => Ending.returned (Value.int .i64 v)) FY
end Go.Proofs.YtepidpegoihllaaGreatDoor
/- sign.nonce. -/
namespace Go.Proofs.YtepidpegoihllaaGreatDoor
open Go.RowKit
def nonceL (r : Int) (c m : List UInt8) : List UInt8 := textL nonceB ++ (numL r ++ (textL c ++ textL m))
def nonceN (r : Int) (c m : List UInt8) : Nat := 1 + shortL (nonceL r c m) % (gQ - 1)
set_option maxRecDepth 100000 in
set_option maxHeartbeats 2000000 in
theorem nonce_any (r : Int) (c m : ByteArray) (w : World) (hr : I64 r) (hc : c.size ≤ 2000) (hm : m.size ≤ 2000) (hg : Glob w) (hml : MLen w) :
    Calls Tryz.prog 77 #[.int .i64 r, .string c, .string m] w fun e w' => e = .returned (.int .i64 (nonceN r c.data.toList m.data.toList : Nat)) ∧ Below w.heap.size w w' := by
  have HG := Lib.hid hg
  have HM := Lib.hid hml
  have HR := Lib.hid hr
  clear hg hml hr
  go_enter Tryz.func77, Tryz.ntmps77
  go_wp2_with fail
  refine (text_any ⟨#[110, 111, 110, 99, 101]⟩ _ (by decide) HM.out).mono ?_
  rintro e w1 ⟨rfl, hb⟩
  have HB1 := Lib.hid hb
  obtain ⟨t1, ht1⟩ : ∃ t1 : ByteArray, t1 = ⟨(textL (ByteArray.mk #[110, 111, 110, 99, 101]).data.toList).toArray⟩ := ⟨_, rfl⟩
  rw [← ht1]
  have HT1 := Lib.hid ht1
  clear hb ht1
  go_wp2_with fail
  refine (num_any r _ HR.out).mono ?_
  rintro e w2 ⟨rfl, hb⟩
  have HB2 := Lib.hid (HB1.out.trans (hb.mono HB1.out.size))
  obtain ⟨t2, ht2⟩ : ∃ t2 : ByteArray, t2 = ⟨(numL r).toArray⟩ := ⟨_, rfl⟩
  rw [← ht2]
  have HT2 := Lib.hid ht2
  clear hb ht2
  go_wp2_with fail
  refine (text_any c _ (by omega) (HM.out.up HB2.out)).mono ?_
  rintro e w4 ⟨rfl, hb⟩
  have HB4 := Lib.hid (HB2.out.trans (hb.mono HB2.out.size))
  obtain ⟨t4, ht4⟩ : ∃ t4 : ByteArray, t4 = ⟨(textL c.data.toList).toArray⟩ := ⟨_, rfl⟩
  rw [← ht4]
  have HT4 := Lib.hid ht4
  clear hb ht4
  go_wp2_with fail
  refine (text_any m _ (by omega) (HM.out.up HB4.out)).mono ?_
  rintro e w5 ⟨rfl, hb⟩
  have HB5 := Lib.hid (HB4.out.trans (hb.mono HB4.out.size))
  obtain ⟨t5, ht5⟩ : ∃ t5 : ByteArray, t5 = ⟨(textL m.data.toList).toArray⟩ := ⟨_, rfl⟩
  rw [← ht5]
  have HT5 := Lib.hid ht5
  clear hb ht5
  have HB6 := Lib.hid (HB5.out.alloc HB5.out.size (.cells #[.string t1, .string t2, .string t4, .string t5] 9))
  have HC6 := Lib.hid (heap_alloc_new w5 (.cells #[.string t1, .string t2, .string t4, .string t5] 9))
  have HF : Hid (([t1, t2, t4, t5].map (·.data.toList)).flatten = nonceL r c.data.toList m.data.toList) := Lib.hid (by
    rw [HT1.out, HT2.out, HT4.out, HT5.out]
    simp [nonceL, nonceB])
  have HLn : Hid ((([t1, t2, t4, t5].map (·.data.toList)).flatten).length ≤ 100000000) := Lib.hid (by
    rw [HF.out]
    unfold nonceL
    have a1 := textL_len nonceB
    have a2 := numL_len HR.out
    have a4 := textL_len c.data.toList
    have a5 := textL_len m.data.toList
    have b4 : c.data.toList.length ≤ 2000 := hc
    have b5 : m.data.toList.length ≤ 2000 := hm
    have b1 : nonceB.length = 5 := rfl
    simp only [List.length_append]
    omega)
  have hcl : Hid (∀ (j : Nat) x, [t1, t2, t4, t5][j]? = some x → (w5.alloc (.cells #[.string t1, .string t2, .string t4, .string t5] 9)).cell? ⟨w5.heap.size, 0 + j, none⟩ = some (.string x)) := Lib.hid (fun j x hj => by
    rw [Nat.zero_add]
    have h := cell_of_row _ _ j _ _ _ HC6.out
    rw [← Array.getElem?_toList] at h
    have h2 : ([t1, t2, t4, t5].map Value.string)[j]? = some (.string x) := by rw [List.getElem?_map, hj]; rfl
    exact h.trans h2)
  obtain ⟨z, hz⟩ : ∃ z, z = shortL (nonceL r c.data.toList m.data.toList) := ⟨_, rfl⟩
  have HZ := Lib.hid hz
  have HE : Hid (nonceN r c.data.toList m.data.toList = 1 + z % (gQ - 1)) := Lib.hid (by unfold nonceN; rw [hz])
  clear hz
  go_wp2_with fail
  refine (hash_any w5.heap.size [t1, t2, t4, t5] _ (HG.out.below HB6.out HG.out.size) hcl.out (blk_lt HC6.out) (show 4 ≤ 100 by decide) HLn.out).mono ?_
  rintro e w7 ⟨rfl, hb⟩
  rw [HF.out, ← HZ.out]
  have HB7 := Lib.hid (HB6.out.trans (hb.mono HB6.out.size))
  clear hb
  obtain ⟨y, hy⟩ : ∃ y, y = z % (gQ - 1) := ⟨_, rfl⟩
  have FY : (z : Int) % 1152921504606845788 = (y : Int) := by rw [hy]; exact (Int.natCast_emod z (gQ - 1)).symm
  have hyb : y < 1152921504606845788 := by rw [hy]; exact Nat.mod_lt _ (by decide)
  have HY := Lib.hid hy
  have hzb : z < 1152921504606846976 := by rw [HZ.out]; exact shortL_lt _
  have F1 : 1 + (z : Int) % 1152921504606845788 = ((1 + y : Nat) : Int) := by rw [FY]; omega
  clear hy
  go_wp2_with fail
  go_ret
  refine ⟨?_, HB7.out⟩
  rw [HE.out, ← HY.out]
  first | rfl | exact congrArg (fun v => Ending.returned (Value.int .i64 v)) F1 | exact congrArg (fun v => Ending.returned (Value.int .i64 v)) (F1.trans rfl)
end Go.Proofs.YtepidpegoihllaaGreatDoor
/- sign.Of, Right. -/
namespace Go.Proofs.YtepidpegoihllaaGreatDoor
open Go.RowKit
theorem undKey : Tryz.prog.underlying 48 = some (.struct (Tryz.prog.fieldsOf 48)) := by kernel_rfl
theorem infoKey : (Tryz.prog.info? 48).map (·.size) = some 2 := by kernel_rfl
/-- the power of the generator -/
def pubN (x : Nat) : Nat := 4 ^ x % gP
theorem two_set {w : World} {b : Nat} {x y u0 u1 : Value} {t : TypeId} (h : w.heap[b]? = some (.cells #[x, y] t (0, 0))) : ((w.setCell ⟨b, 0, none⟩ u0).setCell ⟨b, 1, none⟩ u1).heap[b]? = some (.cells #[u0, u1] t (0, 0)) := by
  have h1 := heap_setCell_same _ b 0 _ _ u0 h
  have h2 := heap_setCell_same _ b 1 _ _ u1 h1
  exact h2.trans rfl
set_option maxRecDepth 100000 in
set_option maxHeartbeats 2000000 in
theorem of_any (x : Nat) (w : World) (h1 : 1 ≤ x) (h2 : x < 1152921504606845789) :
    Calls Tryz.prog 39 #[.int .i64 x] w fun e w' => e = .returned (.agg #[.int .i64 x, .int .i64 (pubN x : Nat)]) ∧ Below w.heap.size w w' := by
  have HZ := Lib.hid (heap_alloc_new w (.cells #[.int .i64 0, .int .i64 0] 48))
  have HB := Lib.hid ((Below.refl w.heap.size w).alloc (Nat.le_refl _) (.cells #[.int .i64 0, .int .i64 0] 48))
  obtain ⟨z, hz⟩ : ∃ z, z = pubN x := ⟨_, rfl⟩
  have HE : Hid (resN 4 gP ^ ((x : Int)).toNat % gP = z) := Lib.hid (by rw [hz, Int.toNat_natCast]; rfl)
  rw [← hz]
  clear hz
  go_enter Tryz.func39, Tryz.ntmps39
  go_wp2_with fail
  refine (exp_any 4 x _ (by decide) ⟨by omega, by omega⟩).mono ?_
  rintro e w1 ⟨rfl, n, rfl⟩
  rw [HE.out]
  go_wp2_with fail
  refine bodyPost_ret (v := .agg #[.int .i64 x, .int .i64 z]) (results_cell_row rfl _ _ _ 48 _ (0, 0) _ rfl (two_set (w := (w.alloc (.cells #[.int .i64 0, .int .i64 0] 48)).drewN n) HZ.out) undKey rfl infoKey) rfl ⟨rfl, ?_⟩
  exact ((show Below w.heap.size w ((w.alloc (.cells #[.int .i64 0, .int .i64 0] 48)).drewN n) from below_drewN HB.out).setCell (Nat.le_refl _) _).setCell (Nat.le_refl _) _
end Go.Proofs.YtepidpegoihllaaGreatDoor
/- sign.Right. -/
namespace Go.Proofs.YtepidpegoihllaaGreatDoor
open Go.RowKit
set_option maxRecDepth 100000 in
set_option maxHeartbeats 2000000 in
theorem right_yes (x : Nat) (p : Int) (w : World) (h1 : 1 ≤ x) (h2 : x < 1152921504606845789) :
    Calls Tryz.prog 76 #[.agg #[.int .i64 x, .int .i64 p]] w fun e w' => e = .returned (.bool (decide (p = (pubN x : Nat)))) ∧ Below w.heap.size w w' := by
  have HZ := Lib.hid (heap_alloc_new w (.cells #[.int .i64 x, .int .i64 p] 48))
  have HB := Lib.hid ((Below.refl w.heap.size w).alloc (Nat.le_refl _) (.cells #[.int .i64 x, .int .i64 p] 48))
  obtain ⟨z, hz⟩ : ∃ z, z = pubN x := ⟨_, rfl⟩
  have HE : Hid (resN 4 gP ^ ((x : Int)).toNat % gP = z) := Lib.hid (by rw [hz, Int.toNat_natCast]; rfl)
  rw [← hz]
  clear hz
  have t1 : decide (1 ≤ (x : Int)) = true := decide_eq_true (by omega)
  have t2 : decide ((x : Int) < 1152921504606845789) = true := decide_eq_true (by omega)
  have hX : ∀ n, Calls Tryz.prog 72 #[.int .i64 4, .int .i64 x] n fun e w' => e = .returned (.int .i64 (z : Nat)) ∧ ∃ k, w' = n.drewN k := fun n => by
    have h := exp_any 4 x n (by decide) ⟨by omega, by omega⟩
    rw [HE.out] at h
    exact h
  have HX := Lib.hid hX
  clear hX
  go_enter Tryz.func76, Tryz.ntmps76
  go_upto_region 1 with fail
  generalize w.alloc (.cells #[.int .i64 x, .int .i64 p] 48) = w2 at *
  have c0 : w2.cell? ⟨w.heap.size, 0, none⟩ = some (.int .i64 x) := (cell_of_row _ _ _ _ _ _ HZ.out).trans rfl
  have c1 : w2.cell? ⟨w.heap.size, 1, none⟩ = some (.int .i64 p) := (cell_of_row _ _ _ _ _ _ HZ.out).trans rfl
  go_quiet ((go_at_call 72; exact Calls.quiet_of (HX.out _)))
  go_wp2_with fail
  go_ret
  exact ⟨rfl, below_drewN HB.out⟩
set_option maxRecDepth 100000 in
set_option maxHeartbeats 2000000 in
theorem right_no (x p : Int) (w : World) (h : x < 1 ∨ 1152921504606845789 ≤ x) :
    Calls Tryz.prog 76 #[.agg #[.int .i64 x, .int .i64 p]] w fun e w' => e = .returned (.bool false) ∧ Below w.heap.size w w' := by
  have HZ := Lib.hid (heap_alloc_new w (.cells #[.int .i64 x, .int .i64 p] 48))
  have HB := Lib.hid ((Below.refl w.heap.size w).alloc (Nat.le_refl _) (.cells #[.int .i64 x, .int .i64 p] 48))
  by_cases h1 : 1 ≤ x
  · have t1 : decide (1 ≤ x) = true := decide_eq_true h1
    have t2 : decide (x < 1152921504606845789) = false := decide_eq_false (by omega)
    clear h h1
    go_enter Tryz.func76, Tryz.ntmps76
    go_upto_region 1 with fail
    generalize w.alloc (.cells #[.int .i64 x, .int .i64 p] 48) = w2 at *
    have c0 : w2.cell? ⟨w.heap.size, 0, none⟩ = some (.int .i64 x) := (cell_of_row _ _ _ _ _ _ HZ.out).trans rfl
    go_quiet (fail)
    go_wp2_with fail
    go_ret
    exact ⟨rfl, below_drewN HB.out⟩
  · have t1 : decide (1 ≤ x) = false := decide_eq_false h1
    clear h h1
    go_enter Tryz.func76, Tryz.ntmps76
    go_upto_region 1 with fail
    generalize w.alloc (.cells #[.int .i64 x, .int .i64 p] 48) = w2 at *
    have c0 : w2.cell? ⟨w.heap.size, 0, none⟩ = some (.int .i64 x) := (cell_of_row _ _ _ _ _ _ HZ.out).trans rfl
    go_quiet (fail)
    go_wp2_with fail
    go_ret
    exact ⟨rfl, below_drewN HB.out⟩
end Go.Proofs.YtepidpegoihllaaGreatDoor
/- sign.Key. -/
namespace Go.Proofs.YtepidpegoihllaaGreatDoor
open Go.RowKit
def keyB : List UInt8 := [107, 101, 121]
def keyL (s : List UInt8) : List UInt8 := textL keyB ++ textL s
/-- the secret of a seed -/
def keyN (s : List UInt8) : Nat := 1 + shortL (keyL s) % (gQ - 1)
theorem keyN_bd (s : List UInt8) : 1 ≤ keyN s ∧ keyN s < 1152921504606845789 := by
  unfold keyN
  have h : shortL (keyL s) % (gQ - 1) < gQ - 1 := Nat.mod_lt _ (by decide)
  have e : gQ - 1 = 1152921504606845788 := rfl
  generalize shortL (keyL s) % (gQ - 1) = q at *
  omega
set_option maxRecDepth 100000 in
set_option maxHeartbeats 4000000 in
theorem key_any (c : ByteArray) (w : World) (hc : c.size ≤ 2000) (hg : Glob w) (hml : MLen w) :
    Calls Tryz.prog 10 #[.string c] w fun e w' => e = .returned (.agg #[.int .i64 (keyN c.data.toList : Nat), .int .i64 (pubN (keyN c.data.toList) : Nat)]) ∧ Below w.heap.size w w' := by
  have hbA := (Below.refl w.heap.size w).alloc (Nat.le_refl _) (.cells #[.int .i64 0, .int .i64 0] 48)
  have HG := Lib.hid (hg.below hbA hg.size)
  have HM := Lib.hid (hml.up hbA)
  have HK0 := Lib.hid (heap_alloc_new w (.cells #[.int .i64 0, .int .i64 0] 48))
  have HBA := Lib.hid hbA
  obtain ⟨y, hy⟩ : ∃ y, y = keyN c.data.toList := ⟨_, rfl⟩
  have hyb := keyN_bd c.data.toList
  rw [← hy] at hyb ⊢
  have HY := Lib.hid hy
  clear hg hml hbA hy
  go_enter Tryz.func10, Tryz.ntmps10
  go_upto_region 1 with fail
  generalize w.alloc (.cells #[.int .i64 0, .int .i64 0] 48) = w0 at *
  have hkl := blk_lt HK0.out
  go_wp2_with fail
  refine (text_any ⟨#[107, 101, 121]⟩ _ (by decide) HM.out).mono ?_
  rintro e w1 ⟨rfl, hb⟩
  have HB1 := Lib.hid hb
  obtain ⟨t1, ht1⟩ : ∃ t1 : ByteArray, t1 = ⟨(textL (ByteArray.mk #[107, 101, 121]).data.toList).toArray⟩ := ⟨_, rfl⟩
  rw [← ht1]
  have HT1 := Lib.hid ht1
  clear hb ht1
  go_wp2_with fail
  refine (text_any c _ (by omega) (HM.out.up HB1.out)).mono ?_
  rintro e w2 ⟨rfl, hb⟩
  have HB2 := Lib.hid (HB1.out.trans (hb.mono HB1.out.size))
  obtain ⟨t2, ht2⟩ : ∃ t2 : ByteArray, t2 = ⟨(textL c.data.toList).toArray⟩ := ⟨_, rfl⟩
  rw [← ht2]
  have HT2 := Lib.hid ht2
  clear hb ht2
  have HB6 := Lib.hid (HB2.out.alloc HB2.out.size (.cells #[.string t1, .string t2] 9))
  have HC6 := Lib.hid (heap_alloc_new w2 (.cells #[.string t1, .string t2] 9))
  have HF : Hid (([t1, t2].map (·.data.toList)).flatten = keyL c.data.toList) := Lib.hid (by
    rw [HT1.out, HT2.out]
    simp [keyL, keyB])
  have HLn : Hid ((([t1, t2].map (·.data.toList)).flatten).length ≤ 100000000) := Lib.hid (by
    rw [HF.out]
    unfold keyL
    have a1 := textL_len keyB
    have a4 := textL_len c.data.toList
    have b4 : c.data.toList.length ≤ 2000 := hc
    have b1 : keyB.length = 3 := rfl
    simp only [List.length_append]
    omega)
  have hcl : Hid (∀ (j : Nat) x, [t1, t2][j]? = some x → (w2.alloc (.cells #[.string t1, .string t2] 9)).cell? ⟨w2.heap.size, 0 + j, none⟩ = some (.string x)) := Lib.hid (fun j x hj => by
    rw [Nat.zero_add]
    have h := cell_of_row _ _ j _ _ _ HC6.out
    rw [← Array.getElem?_toList] at h
    have h2 : ([t1, t2].map Value.string)[j]? = some (.string x) := by rw [List.getElem?_map, hj]; rfl
    exact h.trans h2)
  obtain ⟨z, hz⟩ : ∃ z, z = shortL (keyL c.data.toList) := ⟨_, rfl⟩
  have HZ := Lib.hid hz
  have HE : Hid (y = 1 + z % (gQ - 1)) := Lib.hid (by rw [HY.out]; unfold keyN; rw [hz])
  clear hz
  go_wp2_with fail
  refine (hash_any w2.heap.size [t1, t2] _ (HG.out.below HB6.out HG.out.size) hcl.out (blk_lt HC6.out) (show 2 ≤ 100 by decide) HLn.out).mono ?_
  rintro e w7 ⟨rfl, hb⟩
  rw [HF.out, ← HZ.out]
  have HB7 := Lib.hid (HB6.out.trans (hb.mono HB6.out.size))
  clear hb
  have hzb : z < 1152921504606846976 := by rw [HZ.out]; exact shortL_lt _
  obtain ⟨v, hv⟩ : ∃ v, v = z % (gQ - 1) := ⟨_, rfl⟩
  have FV : (z : Int) % 1152921504606845788 = (v : Int) := by rw [hv]; exact (Int.natCast_emod z (gQ - 1)).symm
  have hyv : y = 1 + v := by rw [hv]; exact HE.out
  have F1 : 1 + (v : Int) = (y : Int) := by omega
  have hvb : v < 1152921504606845788 := by omega
  have hyb1 := hyb.1
  have hyb2 := hyb.2
  clear hv hyv hyb
  go_wp2_with fail
  refine (of_any y _ hyb1 hyb2).mono ?_
  rintro e w8 ⟨rfl, hb⟩
  have HB8 := Lib.hid (HB7.out.trans (hb.mono HB7.out.size))
  have HK8 := Lib.hid (blk_below HK0.out HB8.out hkl)
  have HBW := Lib.hid (HBA.out.trans (HB8.out.mono HBA.out.size))
  clear hb
  obtain ⟨u, hu⟩ : ∃ u, u = pubN y := ⟨_, rfl⟩
  rw [← hu]
  have HU := Lib.hid hu
  clear hu
  obtain ⟨k0, k1⟩ : w8.cell? ⟨w.heap.size, 0, none⟩ = some (.int .i64 0) ∧ w8.cell? ⟨w.heap.size, 1, none⟩ = some (.int .i64 0) := ⟨(cell_of_row _ _ _ _ _ _ HK8.out).trans rfl, (cell_of_row _ _ _ _ _ _ HK8.out).trans rfl⟩
  have f0 : ∀ j, w8.frozen? ⟨w.heap.size, j, none⟩ = false := fun j => frozen_of_row _ _ _ _ _ HK8.out
  go_wp2_with fail
  refine bodyPost_ret (v := .agg #[.int .i64 y, .int .i64 u]) (results_cell_row rfl _ _ _ 48 _ (0, 0) _ rfl (two_set HK8.out) undKey rfl infoKey) rfl ⟨by rw [← HU.out], ?_⟩
  exact (HBW.out.setCell (Nat.le_refl _) _).setCell (Nat.le_refl _) _
end Go.Proofs.YtepidpegoihllaaGreatDoor
