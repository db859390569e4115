/- Texts merged: SChal SNonce SKey SRight SKeyA SVer -/
import Derived.Outline
import Derived.Test.YtjbjpkhibcnenaaGreatDoorSHash
import Derived.Laws.Rows
/- sign.challenge and sign.nonce. -/
namespace Go.Proofs.YtjbjpkhibcnenaaGreatDoor
open Go.RowKit
def signB : List UInt8 := [115, 105, 103, 110]
def nonceB : List UInt8 := [110, 111, 110, 99, 101]
/-- what a challenge hashes -/
def chalB (r p : Int) (c m : List UInt8) : List UInt8 := textL signB ++ (numL r ++ (numL p ++ (textL c ++ textL m)))
def chalN (r p : Int) (c m : List UInt8) : Nat := shortL (chalB r p c m) % gQ
theorem numL_len {n : Int} (h : I64 n) : (numL n).length ≤ 9 := by
  unfold numL
  split
  · exact Nat.zero_le _
  · exact (intL_len h).2
theorem shortL_lt (l : List UInt8) : shortL l < 1152921504606846976 := by
  unfold shortL
  have := topN_lt (sumB l) 8
  have e : (256 : Nat) ^ 8 = 18446744073709551616 := by decide
  generalize topN (sumB l) 8 = q at *
  omega
set_option maxRecDepth 100000 in
set_option maxHeartbeats 2000000 in
theorem chal_any (r p : Int) (c m : ByteArray) (w : World) (hr : I64 r) (hp : I64 p) (hc : c.size ≤ 2000) (hm : m.size ≤ 10000000) (hg : Glob w) (hml : MLen w) :
    Calls Tryz.prog 114 #[.int .i64 r, .int .i64 p, .string c, .string m] w fun e w' => e = .returned (.int .i64 (chalN r p c.data.toList m.data.toList : Nat)) ∧ Below w.heap.size w w' := by
  have HG := Lib.hid hg
  have HM := Lib.hid hml
  have HR := Lib.hid hr
  have HP := Lib.hid hp
  clear hg hml hr hp
  go_enter Tryz.func114, Tryz.ntmps114
  go_wp2_with fail
  refine (text_any ⟨#[115, 105, 103, 110]⟩ _ (by decide) HM.out).mono ?_
  rintro e w1 ⟨rfl, hb⟩
  have HB1 := Lib.hid hb
  obtain ⟨t1, ht1⟩ : ∃ t1 : ByteArray, t1 = ⟨(textL (ByteArray.mk #[115, 105, 103, 110]).data.toList).toArray⟩ := ⟨_, rfl⟩
  rw [← ht1]
  have HT1 := Lib.hid ht1
  clear hb ht1
  go_wp2_with fail
  refine (num_any r _ HR.out).mono ?_
  rintro e w2 ⟨rfl, hb⟩
  have HB2 := Lib.hid (HB1.out.trans (hb.mono HB1.out.size))
  obtain ⟨t2, ht2⟩ : ∃ t2 : ByteArray, t2 = ⟨(numL r).toArray⟩ := ⟨_, rfl⟩
  rw [← ht2]
  have HT2 := Lib.hid ht2
  clear hb ht2
  go_wp2_with fail
  refine (num_any p _ HP.out).mono ?_
  rintro e w3 ⟨rfl, hb⟩
  have HB3 := Lib.hid (HB2.out.trans (hb.mono HB2.out.size))
  obtain ⟨t3, ht3⟩ : ∃ t3 : ByteArray, t3 = ⟨(numL p).toArray⟩ := ⟨_, rfl⟩
  rw [← ht3]
  have HT3 := Lib.hid ht3
  clear hb ht3
  go_wp2_with fail
  refine (text_any c _ (by omega) (HM.out.up HB3.out)).mono ?_
  rintro e w4 ⟨rfl, hb⟩
  have HB4 := Lib.hid (HB3.out.trans (hb.mono HB3.out.size))
  obtain ⟨t4, ht4⟩ : ∃ t4 : ByteArray, t4 = ⟨(textL c.data.toList).toArray⟩ := ⟨_, rfl⟩
  rw [← ht4]
  have HT4 := Lib.hid ht4
  clear hb ht4
  go_wp2_with fail
  refine (text_any m _ (by omega) (HM.out.up HB4.out)).mono ?_
  rintro e w5 ⟨rfl, hb⟩
  have HB5 := Lib.hid (HB4.out.trans (hb.mono HB4.out.size))
  obtain ⟨t5, ht5⟩ : ∃ t5 : ByteArray, t5 = ⟨(textL m.data.toList).toArray⟩ := ⟨_, rfl⟩
  rw [← ht5]
  have HT5 := Lib.hid ht5
  clear hb ht5
  have HB6 := Lib.hid (HB5.out.alloc HB5.out.size (.cells #[.string t1, .string t2, .string t3, .string t4, .string t5] 9))
  have HC6 := Lib.hid (heap_alloc_new w5 (.cells #[.string t1, .string t2, .string t3, .string t4, .string t5] 9))
  have HF : Hid (([t1, t2, t3, t4, t5].map (·.data.toList)).flatten = chalB r p c.data.toList m.data.toList) := Lib.hid (by
    rw [HT1.out, HT2.out, HT3.out, HT4.out, HT5.out]
    simp [chalB, signB])
  have HLn : Hid ((([t1, t2, t3, t4, t5].map (·.data.toList)).flatten).length ≤ 100000000) := Lib.hid (by
    rw [HF.out]
    unfold chalB
    have a1 := textL_len signB
    have a2 := numL_len HR.out
    have a3 := numL_len HP.out
    have a4 := textL_len c.data.toList
    have a5 := textL_len m.data.toList
    have b4 : c.data.toList.length ≤ 2000 := hc
    have b5 : m.data.toList.length ≤ 10000000 := hm
    have b1 : signB.length = 4 := rfl
    simp only [List.length_append]
    omega)
  have hcl : Hid (∀ (j : Nat) x, [t1, t2, t3, t4, t5][j]? = some x → (w5.alloc (.cells #[.string t1, .string t2, .string t3, .string t4, .string t5] 9)).cell? ⟨w5.heap.size, 0 + j, none⟩ = some (.string x)) := Lib.hid (fun j x hj => by
    rw [Nat.zero_add]
    have h := cell_of_row _ _ j _ _ _ HC6.out
    rw [← Array.getElem?_toList] at h
    have h2 : ([t1, t2, t3, t4, t5].map Value.string)[j]? = some (.string x) := by rw [List.getElem?_map, hj]; rfl
    exact h.trans h2)
  obtain ⟨z, hz⟩ : ∃ z, z = shortL (chalB r p c.data.toList m.data.toList) := ⟨_, rfl⟩
  have HZ := Lib.hid hz
  have HE : Hid (chalN r p c.data.toList m.data.toList = z % gQ) := Lib.hid (by unfold chalN; rw [hz])
  clear hz
  go_wp2_with fail
  refine (hash_any w5.heap.size [t1, t2, t3, t4, t5] _ (HG.out.below HB6.out HG.out.size) hcl.out (blk_lt HC6.out) (show 5 ≤ 100 by decide) HLn.out).mono ?_
  rintro e w7 ⟨rfl, hb⟩
  rw [HF.out, ← HZ.out]
  have HB7 := Lib.hid (HB6.out.trans (hb.mono HB6.out.size))
  clear hb
  obtain ⟨y, hy⟩ : ∃ y, y = z % gQ := ⟨_, rfl⟩
  have FY : (z : Int) % 1152921504606845789 = (y : Int) := by rw [hy]; exact (Int.natCast_emod z gQ).symm
  have HY := Lib.hid hy
  have hzb : z < 1152921504606846976 := by rw [HZ.out]; exact shortL_lt _
  clear hy
  go_wp2_with fail
  go_ret
  refine ⟨?_, HB7.out⟩
  rw [HE.out, ← HY.out]
  first | rfl | exact congrArg (fun v => Ending.returned (Value.int .i64 v)) FY
end Go.Proofs.YtjbjpkhibcnenaaGreatDoor
/- sign.nonce. -/
namespace Go.Proofs.YtjbjpkhibcnenaaGreatDoor
open Go.RowKit
def nonceL (r : Int) (c m : List UInt8) : List UInt8 := textL nonceB ++ (numL r ++ (textL c ++ textL m))
def nonceN (r : Int) (c m : List UInt8) : Nat := 1 + shortL (nonceL r c m) % (gQ - 1)
set_option maxRecDepth 100000 in
set_option maxHeartbeats 2000000 in
theorem nonce_any (r : Int) (c m : ByteArray) (w : World) (hr : I64 r) (hc : c.size ≤ 2000) (hm : m.size ≤ 2000) (hg : Glob w) (hml : MLen w) :
    Calls Tryz.prog 113 #[.int .i64 r, .string c, .string m] w fun e w' => e = .returned (.int .i64 (nonceN r c.data.toList m.data.toList : Nat)) ∧ Below w.heap.size w w' := by
  have HG := Lib.hid hg
  have HM := Lib.hid hml
  have HR := Lib.hid hr
  clear hg hml hr
  go_enter Tryz.func113, Tryz.ntmps113
  go_wp2_with fail
  refine (text_any ⟨#[110, 111, 110, 99, 101]⟩ _ (by decide) HM.out).mono ?_
  rintro e w1 ⟨rfl, hb⟩
  have HB1 := Lib.hid hb
  obtain ⟨t1, ht1⟩ : ∃ t1 : ByteArray, t1 = ⟨(textL (ByteArray.mk #[110, 111, 110, 99, 101]).data.toList).toArray⟩ := ⟨_, rfl⟩
  rw [← ht1]
  have HT1 := Lib.hid ht1
  clear hb ht1
  go_wp2_with fail
  refine (num_any r _ HR.out).mono ?_
  rintro e w2 ⟨rfl, hb⟩
  have HB2 := Lib.hid (HB1.out.trans (hb.mono HB1.out.size))
  obtain ⟨t2, ht2⟩ : ∃ t2 : ByteArray, t2 = ⟨(numL r).toArray⟩ := ⟨_, rfl⟩
  rw [← ht2]
  have HT2 := Lib.hid ht2
  clear hb ht2
  go_wp2_with fail
  refine (text_any c _ (by omega) (HM.out.up HB2.out)).mono ?_
  rintro e w4 ⟨rfl, hb⟩
  have HB4 := Lib.hid (HB2.out.trans (hb.mono HB2.out.size))
  obtain ⟨t4, ht4⟩ : ∃ t4 : ByteArray, t4 = ⟨(textL c.data.toList).toArray⟩ := ⟨_, rfl⟩
  rw [← ht4]
  have HT4 := Lib.hid ht4
  clear hb ht4
  go_wp2_with fail
  refine (text_any m _ (by omega) (HM.out.up HB4.out)).mono ?_
  rintro e w5 ⟨rfl, hb⟩
  have HB5 := Lib.hid (HB4.out.trans (hb.mono HB4.out.size))
  obtain ⟨t5, ht5⟩ : ∃ t5 : ByteArray, t5 = ⟨(textL m.data.toList).toArray⟩ := ⟨_, rfl⟩
  rw [← ht5]
  have HT5 := Lib.hid ht5
  clear hb ht5
  have HB6 := Lib.hid (HB5.out.alloc HB5.out.size (.cells #[.string t1, .string t2, .string t4, .string t5] 9))
  have HC6 := Lib.hid (heap_alloc_new w5 (.cells #[.string t1, .string t2, .string t4, .string t5] 9))
  have HF : Hid (([t1, t2, t4, t5].map (·.data.toList)).flatten = nonceL r c.data.toList m.data.toList) := Lib.hid (by
    rw [HT1.out, HT2.out, HT4.out, HT5.out]
    simp [nonceL, nonceB])
  have HLn : Hid ((([t1, t2, t4, t5].map (·.data.toList)).flatten).length ≤ 100000000) := Lib.hid (by
    rw [HF.out]
    unfold nonceL
    have a1 := textL_len nonceB
    have a2 := numL_len HR.out
    have a4 := textL_len c.data.toList
    have a5 := textL_len m.data.toList
    have b4 : c.data.toList.length ≤ 2000 := hc
    have b5 : m.data.toList.length ≤ 2000 := hm
    have b1 : nonceB.length = 5 := rfl
    simp only [List.length_append]
    omega)
  have hcl : Hid (∀ (j : Nat) x, [t1, t2, t4, t5][j]? = some x → (w5.alloc (.cells #[.string t1, .string t2, .string t4, .string t5] 9)).cell? ⟨w5.heap.size, 0 + j, none⟩ = some (.string x)) := Lib.hid (fun j x hj => by
    rw [Nat.zero_add]
    have h := cell_of_row _ _ j _ _ _ HC6.out
    rw [← Array.getElem?_toList] at h
    have h2 : ([t1, t2, t4, t5].map Value.string)[j]? = some (.string x) := by rw [List.getElem?_map, hj]; rfl
    exact h.trans h2)
  obtain ⟨z, hz⟩ : ∃ z, z = shortL (nonceL r c.data.toList m.data.toList) := ⟨_, rfl⟩
  have HZ := Lib.hid hz
  have HE : Hid (nonceN r c.data.toList m.data.toList = 1 + z % (gQ - 1)) := Lib.hid (by unfold nonceN; rw [hz])
  clear hz
  go_wp2_with fail
  refine (hash_any w5.heap.size [t1, t2, t4, t5] _ (HG.out.below HB6.out HG.out.size) hcl.out (blk_lt HC6.out) (show 4 ≤ 100 by decide) HLn.out).mono ?_
  rintro e w7 ⟨rfl, hb⟩
  rw [HF.out, ← HZ.out]
  have HB7 := Lib.hid (HB6.out.trans (hb.mono HB6.out.size))
  clear hb
  obtain ⟨y, hy⟩ : ∃ y, y = z % (gQ - 1) := ⟨_, rfl⟩
  have FY : (z : Int) % 1152921504606845788 = (y : Int) := by rw [hy]; exact (Int.natCast_emod z (gQ - 1)).symm
  have hyb : y < 1152921504606845788 := by rw [hy]; exact Nat.mod_lt _ (by decide)
  have HY := Lib.hid hy
  have hzb : z < 1152921504606846976 := by rw [HZ.out]; exact shortL_lt _
  have F1 : 1 + (z : Int) % 1152921504606845788 = ((1 + y : Nat) : Int) := by rw [FY]; omega
  clear hy
  go_wp2_with fail
  go_ret
  refine ⟨?_, HB7.out⟩
  rw [HE.out, ← HY.out]
  first | rfl | exact congrArg (fun v => Ending.returned (Value.int .i64 v)) F1 | exact congrArg (fun v => Ending.returned (Value.int .i64 v)) (F1.trans rfl)
end Go.Proofs.YtjbjpkhibcnenaaGreatDoor
/- sign.Of, Right. -/
namespace Go.Proofs.YtjbjpkhibcnenaaGreatDoor
open Go.RowKit
theorem undKey : Tryz.prog.underlying 73 = some (.struct (Tryz.prog.fieldsOf 73)) := by kernel_rfl
theorem infoKey : (Tryz.prog.info? 73).map (·.size) = some 2 := by kernel_rfl
/-- the power of the generator -/
def pubN (x : Nat) : Nat := 4 ^ x % gP
theorem two_set {w : World} {b : Nat} {x y u0 u1 : Value} {t : TypeId} (h : w.heap[b]? = some (.cells #[x, y] t (0, 0))) : ((w.setCell ⟨b, 0, none⟩ u0).setCell ⟨b, 1, none⟩ u1).heap[b]? = some (.cells #[u0, u1] t (0, 0)) := by
  have h1 := heap_setCell_same _ b 0 _ _ u0 h
  have h2 := heap_setCell_same _ b 1 _ _ u1 h1
  exact h2.trans rfl
end Go.Proofs.YtjbjpkhibcnenaaGreatDoor
/- sign.Right. -/
namespace Go.Proofs.YtjbjpkhibcnenaaGreatDoor
open Go.RowKit
set_option maxRecDepth 100000 in
set_option maxHeartbeats 2000000 in
theorem right_yes (x : Nat) (p : Int) (w : World) (h1 : 1 ≤ x) (h2 : x < 1152921504606845789) :
    Calls Tryz.prog 112 #[.agg #[.int .i64 x, .int .i64 p]] w fun e w' => e = .returned (.bool (decide (p = (pubN x : Nat)))) ∧ Below w.heap.size w w' := by
  have HZ := Lib.hid (heap_alloc_new w (.cells #[.int .i64 x, .int .i64 p] 73))
  have HB := Lib.hid ((Below.refl w.heap.size w).alloc (Nat.le_refl _) (.cells #[.int .i64 x, .int .i64 p] 73))
  obtain ⟨z, hz⟩ : ∃ z, z = pubN x := ⟨_, rfl⟩
  have HE : Hid (resN 4 gP ^ ((x : Int)).toNat % gP = z) := Lib.hid (by rw [hz, Int.toNat_natCast]; rfl)
  rw [← hz]
  clear hz
  have t1 : decide (1 ≤ (x : Int)) = true := decide_eq_true (by omega)
  have t2 : decide ((x : Int) < 1152921504606845789) = true := decide_eq_true (by omega)
  have hX : ∀ n, Calls Tryz.prog 115 #[.int .i64 4, .int .i64 x] n fun e w' => e = .returned (.int .i64 (z : Nat)) ∧ ∃ k, w' = n.drewN k := fun n => by
    have h := exp_any 4 x n (by decide) ⟨by omega, by omega⟩
    rw [HE.out] at h
    exact h
  have HX := Lib.hid hX
  clear hX
  go_enter Tryz.func112, Tryz.ntmps112
  go_upto_region 1 with fail
  generalize w.alloc (.cells #[.int .i64 x, .int .i64 p] 73) = w2 at *
  have c0 : w2.cell? ⟨w.heap.size, 0, none⟩ = some (.int .i64 x) := (cell_of_row _ _ _ _ _ _ HZ.out).trans rfl
  have c1 : w2.cell? ⟨w.heap.size, 1, none⟩ = some (.int .i64 p) := (cell_of_row _ _ _ _ _ _ HZ.out).trans rfl
  go_quiet ((go_at_call 115; exact Calls.quiet_of (HX.out _)))
  go_wp2_with fail
  go_ret
  exact ⟨rfl, below_drewN HB.out⟩
set_option maxRecDepth 100000 in
set_option maxHeartbeats 2000000 in
theorem right_no (x p : Int) (w : World) (h : x < 1 ∨ 1152921504606845789 ≤ x) :
    Calls Tryz.prog 112 #[.agg #[.int .i64 x, .int .i64 p]] w fun e w' => e = .returned (.bool false) ∧ Below w.heap.size w w' := by
  have HZ := Lib.hid (heap_alloc_new w (.cells #[.int .i64 x, .int .i64 p] 73))
  have HB := Lib.hid ((Below.refl w.heap.size w).alloc (Nat.le_refl _) (.cells #[.int .i64 x, .int .i64 p] 73))
  by_cases h1 : 1 ≤ x
  · have t1 : decide (1 ≤ x) = true := decide_eq_true h1
    have t2 : decide (x < 1152921504606845789) = false := decide_eq_false (by omega)
    clear h h1
    go_enter Tryz.func112, Tryz.ntmps112
    go_upto_region 1 with fail
    generalize w.alloc (.cells #[.int .i64 x, .int .i64 p] 73) = w2 at *
    have c0 : w2.cell? ⟨w.heap.size, 0, none⟩ = some (.int .i64 x) := (cell_of_row _ _ _ _ _ _ HZ.out).trans rfl
    go_quiet (fail)
    go_wp2_with fail
    go_ret
    exact ⟨rfl, below_drewN HB.out⟩
  · have t1 : decide (1 ≤ x) = false := decide_eq_false h1
    clear h h1
    go_enter Tryz.func112, Tryz.ntmps112
    go_upto_region 1 with fail
    generalize w.alloc (.cells #[.int .i64 x, .int .i64 p] 73) = w2 at *
    have c0 : w2.cell? ⟨w.heap.size, 0, none⟩ = some (.int .i64 x) := (cell_of_row _ _ _ _ _ _ HZ.out).trans rfl
    go_quiet (fail)
    go_wp2_with fail
    go_ret
    exact ⟨rfl, below_drewN HB.out⟩
end Go.Proofs.YtjbjpkhibcnenaaGreatDoor
/- sign.Key. -/
namespace Go.Proofs.YtjbjpkhibcnenaaGreatDoor
open Go.RowKit
def keyB : List UInt8 := [107, 101, 121]
def keyL (s : List UInt8) : List UInt8 := textL keyB ++ textL s
/-- the secret of a seed -/
def keyN (s : List UInt8) : Nat := 1 + shortL (keyL s) % (gQ - 1)
theorem keyN_bd (s : List UInt8) : 1 ≤ keyN s ∧ keyN s < 1152921504606845789 := by
  unfold keyN
  have h : shortL (keyL s) % (gQ - 1) < gQ - 1 := Nat.mod_lt _ (by decide)
  have e : gQ - 1 = 1152921504606845788 := rfl
  generalize shortL (keyL s) % (gQ - 1) = q at *
  omega
end Go.Proofs.YtjbjpkhibcnenaaGreatDoor
/- sign.Verify. -/
namespace Go.Proofs.YtjbjpkhibcnenaaGreatDoor
open Go.RowKit
/-- what a signature stands for -/
def elemN (p E S : Int) : Nat := (4 ^ S.toNat % gP) * (p.toNat ^ (gQ - E.toNat) % gP) % gP
def VerOk (p E S : Int) (c m : List UInt8) : Prop := p ≠ 1 ∧ InG p ∧ (0 ≤ E ∧ E < 1152921504606845789) ∧ (0 ≤ S ∧ S < 1152921504606845789) ∧ ((chalN (elemN p E S : Nat) p c m : Nat) : Int) = E
theorem mulN_nat {x y m : Nat} (hx : x < m) (hy : y < m) : mulN (x : Int) (y : Int) m = x * y % m := by
  unfold mulN
  rw [resN_of hx, resN_of hy]
theorem res4 : resN 4 gP = 4 := by decide +kernel
theorem s1_step {w cur w' : World} {nb : Nat} {b0 : Value} (h : cur.cell? ⟨nb, 0, none⟩ = some b0 ∧ nb < cur.heap.size ∧ Below w.heap.size w cur)
    (hb : Below cur.heap.size cur w') : w'.cell? ⟨nb, 0, none⟩ = some b0 ∧ nb < w'.heap.size ∧ Below w.heap.size w w' := by
  obtain ⟨h0, h5, h6⟩ := h
  exact ⟨(hb.cell (p := ⟨nb, 0, none⟩) h5).trans h0, Nat.lt_of_lt_of_le h5 hb.size, h6.trans (hb.mono h6.size)⟩
set_option maxRecDepth 100000 in
set_option maxHeartbeats 2000000 in
theorem ver_out (p E S : Int) (c m : ByteArray) (w : World) (hp : I64 p) (hn : ¬ (p ≠ 1 ∧ InG p ∧ (0 ≤ E ∧ E < 1152921504606845789) ∧ (0 ≤ S ∧ S < 1152921504606845789))) :
    Calls Tryz.prog 94 #[.int .i64 p, .string c, .string m, .agg #[.int .i64 E, .int .i64 S]] w fun e w' => e = .returned (.bool false) ∧ Below w.heap.size w w' := by
  have HZ := Lib.hid (heap_alloc_new w (.cells #[.int .i64 E, .int .i64 S] 36))
  have HB := Lib.hid ((Below.refl w.heap.size w).alloc (Nat.le_refl _) (.cells #[.int .i64 E, .int .i64 S] 36))
  by_cases h1 : p = 1
  · subst h1
    clear hn hp
    go_enter Tryz.func94, Tryz.ntmps94
    go_wp2_with fail
    go_ret
    exact ⟨rfl, HB.out⟩
  · obtain ⟨b, hb, hc⟩ : ∃ b : Bool, (b = true ↔ InG p) ∧ ∀ w0, Calls Tryz.prog 123 #[.int .i64 p] w0 fun e w' => e = .returned (.bool b) ∧ ∃ n, w' = w0.drewN n := by
      obtain ⟨b, hb, _⟩ := in_any p w hp
      refine ⟨b, hb, fun w0 => ?_⟩
      obtain ⟨b', hb', h'⟩ := in_any p w0 hp
      have e : b = b' := by
        rw [Bool.eq_iff_iff, hb, hb']
      rw [e]
      exact h'
    have HC := Lib.hid hc
    have t1 : (p == 1) = false := by rw [beq_eq_false_iff_ne]; exact h1
    clear hc
    cases b with
    | false =>
      clear hn hp hb h1
      go_enter Tryz.func94, Tryz.ntmps94
      go_wp2_with fail
      refine (HC.out _).mono ?_
      rintro e w1 ⟨rfl, k, rfl⟩
      have HB1 := Lib.hid (below_drewN (n := k) HB.out)
      go_wp2_with fail
      go_ret
      exact ⟨rfl, HB1.out⟩
    | true =>
      have hIn : InG p := hb.1 rfl
      have hd : E < 0 ∨ (0 ≤ E ∧ 1152921504606845789 ≤ E) ∨ (0 ≤ E ∧ E < 1152921504606845789 ∧ S < 0) ∨ (0 ≤ E ∧ E < 1152921504606845789 ∧ 0 ≤ S ∧ 1152921504606845789 ≤ S) := by
        by_cases e1 : E < 0
        · exact .inl e1
        · by_cases e2 : E < 1152921504606845789
          · by_cases e3 : S < 0
            · exact .inr (.inr (.inl ⟨by omega, e2, e3⟩))
            · by_cases e4 : S < 1152921504606845789
              · exact absurd ⟨h1, hIn, ⟨by omega, e2⟩, ⟨by omega, e4⟩⟩ hn
              · exact .inr (.inr (.inr ⟨by omega, e2, by omega, by omega⟩))
          · exact .inr (.inl ⟨by omega, by omega⟩)
      clear hn hp hb h1 hIn
      go_enter Tryz.func94, Tryz.ntmps94
      go_wp2_with fail
      refine (HC.out _).mono ?_
      rintro e w1 ⟨rfl, k, rfl⟩
      have HB1 := Lib.hid (below_drewN (n := k) HB.out)
      have c0 : ((w.alloc (.cells #[.int .i64 E, .int .i64 S] 36)).drewN k).cell? ⟨w.heap.size, 0, none⟩ = some (.int .i64 E) := (cell_of_row _ _ _ _ _ _ HZ.out).trans rfl
      have c1 : ((w.alloc (.cells #[.int .i64 E, .int .i64 S] 36)).drewN k).cell? ⟨w.heap.size, 1, none⟩ = some (.int .i64 S) := (cell_of_row _ _ _ _ _ _ HZ.out).trans rfl
      generalize (w.alloc (.cells #[.int .i64 E, .int .i64 S] 36)).drewN k = w1 at *
      rcases hd with d | d | d | d
      · have u1 : decide (E < 0) = true := decide_eq_true d
        clear d
        go_wp2_with fail
        go_ret
        exact ⟨rfl, HB1.out⟩
      · have u1 : decide (E < 0) = false := decide_eq_false (by omega)
        have u2 : decide (1152921504606845789 ≤ E) = true := decide_eq_true d.2
        clear d
        go_wp2_with fail
        go_ret
        exact ⟨rfl, HB1.out⟩
      · have u1 : decide (E < 0) = false := decide_eq_false (by omega)
        have u2 : decide (1152921504606845789 ≤ E) = false := decide_eq_false (by omega)
        have u3 : decide (S < 0) = true := decide_eq_true d.2.2
        clear d
        go_wp2_with fail
        go_ret
        exact ⟨rfl, HB1.out⟩
      · have u1 : decide (E < 0) = false := decide_eq_false (by omega)
        have u2 : decide (1152921504606845789 ≤ E) = false := decide_eq_false (by omega)
        have u3 : decide (S < 0) = false := decide_eq_false (by omega)
        have u4 : decide (1152921504606845789 ≤ S) = true := decide_eq_true d.2.2.2
        clear d
        go_wp2_with fail
        go_ret
        exact ⟨rfl, HB1.out⟩
set_option maxRecDepth 100000 in
set_option maxHeartbeats 4000000 in
theorem ver_in (p E S : Int) (c m : ByteArray) (w : World) (hc : c.size ≤ 2000) (hm : m.size ≤ 10000000) (hg : Glob w) (hml : MLen w)
    (h1 : p ≠ 1) (hI : InG p) (hE : 0 ≤ E ∧ E < 1152921504606845789) (hS : 0 ≤ S ∧ S < 1152921504606845789) :
    Calls Tryz.prog 94 #[.int .i64 p, .string c, .string m, .agg #[.int .i64 E, .int .i64 S]] w fun e w' => e = .returned (.bool (((chalN (elemN p E S : Nat) p c.data.toList m.data.toList : Nat) : Int) == E)) ∧ Below w.heap.size w w' := by
  have HZ := Lib.hid (heap_alloc_new w (.cells #[.int .i64 E, .int .i64 S] 36))
  have HB := Lib.hid ((Below.refl w.heap.size w).alloc (Nat.le_refl _) (.cells #[.int .i64 E, .int .i64 S] 36))
  have hp : I64 p := ⟨by have := hI.1; omega, by have := hI.2.1; omega⟩
  have HC : Hid (∀ w0, Calls Tryz.prog 123 #[.int .i64 p] w0 fun e w' => e = .returned (.bool true) ∧ ∃ n, w' = w0.drewN n) := Lib.hid (fun w0 => by
    obtain ⟨b, hb, h⟩ := in_any p w0 hp
    rw [hb.2 hI] at h
    exact h)
  obtain ⟨J, hJ⟩ : ∃ J : Int → Int → Int, J = fun a e => ((resN a gP ^ e.toNat % gP : Nat) : Int) := ⟨_, rfl⟩
  obtain ⟨M, hM⟩ : ∃ M : Int → Int → Int, M = fun a b => ((mulN a b gP : Nat) : Int) := ⟨_, rfl⟩
  obtain ⟨q, hq⟩ : ∃ q : Int, q = 1152921504606845789 - E := ⟨_, rfl⟩
  have HJ : Hid (∀ a e n, I64 a ∧ 0 ≤ e ∧ e ≤ 9223372036854775807 → Calls Tryz.prog 115 #[.int .i64 a, .int .i64 e] n fun e' w' => e' = .returned (.int .i64 (J a e)) ∧ ∃ k, w' = n.drewN k) := Lib.hid (fun a e n h => by rw [hJ]; exact exp_any a e n h.1 h.2)
  have HU : Hid (∀ a b n, I64 a ∧ I64 b → Calls Tryz.prog 124 #[.int .i64 a, .int .i64 b] n fun e' w' => e' = .returned (.int .i64 (M a b)) ∧ ∃ k, w' = n.drewN k) := Lib.hid (fun a b n h => by rw [hM]; exact mul_any a b n h.1 h.2)
  have e1 : J 4 S = ((4 ^ S.toNat % gP : Nat) : Int) := by rw [hJ]; show ((resN 4 gP ^ S.toNat % gP : Nat) : Int) = _; rw [res4]
  have e2 : J p q = ((p.toNat ^ (gQ - E.toNat) % gP : Nat) : Int) := by
    rw [hJ]
    show ((resN p gP ^ q.toNat % gP : Nat) : Int) = _
    rw [resN_in hI.1 hI.2.1]
    have e : q.toNat = gQ - E.toNat := by show q.toNat = 1152921504606845789 - E.toNat; omega
    rw [e]
  have e3 : M (J 4 S) (J p q) = ((elemN p E S : Nat) : Int) := by
    rw [e1, e2, hM]
    show ((mulN _ _ gP : Nat) : Int) = _
    rw [mulN_nat (m := gP) (lt_p _) (lt_p _)]
    rfl
  have B1 : Hid (I64 (4 : Int) ∧ 0 ≤ S ∧ S ≤ 9223372036854775807) := Lib.hid ⟨⟨by omega, by omega⟩, by omega, by omega⟩
  have B2 : Hid (I64 p ∧ 0 ≤ q ∧ q ≤ 9223372036854775807) := Lib.hid ⟨hp, by omega, by omega⟩
  have B3 : Hid (I64 (J 4 S) ∧ I64 (J p q)) := Lib.hid (by
    rw [e1, e2]
    have a1 : 4 ^ S.toNat % gP < 2305843009213691579 := lt_p _
    have a2 : p.toNat ^ (gQ - E.toNat) % gP < 2305843009213691579 := lt_p _
    generalize 4 ^ S.toNat % gP = z1 at *
    generalize p.toNat ^ (gQ - E.toNat) % gP = z2 at *
    exact ⟨⟨by omega, by omega⟩, ⟨by omega, by omega⟩⟩)
  obtain ⟨x3, hx3⟩ : ∃ x3, x3 = elemN p E S := ⟨_, rfl⟩
  have hx3l : x3 < 2305843009213691579 := by rw [hx3]; exact lt_p _
  rw [← hx3] at e3 ⊢
  obtain ⟨y, hy⟩ : ∃ y, y = chalN (x3 : Nat) p c.data.toList m.data.toList := ⟨_, rfl⟩
  rw [← hy]
  have H4 : Hid (∀ n, Glob n → MLen n → Calls Tryz.prog 114 #[.int .i64 (M (J 4 S) (J p q)), .int .i64 p, .string c, .string m] n fun e w' => e = .returned (.int .i64 (y : Nat)) ∧ Below n.heap.size n w') := Lib.hid (fun n a b => by
    have h := chal_any x3 p c m n ⟨by omega, by omega⟩ hp hc hm a b
    rw [← hy, ← e3] at h
    exact h)
  clear e1 e2 e3
  have HG := Lib.hid hg
  have HM := Lib.hid hml
  have t1 : (p == 1) = false := by rw [beq_eq_false_iff_ne]; exact h1
  have u1 : decide (E < 0) = false := decide_eq_false (by omega)
  have u2 : decide (1152921504606845789 ≤ E) = false := decide_eq_false (by omega)
  have u3 : decide (S < 0) = false := decide_eq_false (by omega)
  have u4 : decide (1152921504606845789 ≤ S) = false := decide_eq_false (by omega)
  have hq2 : 1152921504606845789 - E = q := hq.symm
  have hqb : 0 ≤ q ∧ q ≤ 1152921504606845789 := ⟨by omega, by omega⟩
  clear hJ hM hx3 hy hg hml hc hm h1 hI hp hq
  go_enter Tryz.func94, Tryz.ntmps94
  go_wp2_with fail
  refine (HC.out _).mono ?_
  rintro e w1 ⟨rfl, k, rfl⟩
  have HB1 := Lib.hid (below_drewN (n := k) HB.out)
  have c0 : ((w.alloc (.cells #[.int .i64 E, .int .i64 S] 36)).drewN k).cell? ⟨w.heap.size, 0, none⟩ = some (.int .i64 E) := (cell_of_row _ _ _ _ _ _ HZ.out).trans rfl
  have c1 : ((w.alloc (.cells #[.int .i64 E, .int .i64 S] 36)).drewN k).cell? ⟨w.heap.size, 1, none⟩ = some (.int .i64 S) := (cell_of_row _ _ _ _ _ _ HZ.out).trans rfl
  have HL : Hid (w.heap.size < ((w.alloc (.cells #[.int .i64 E, .int .i64 S] 36)).drewN k).heap.size) := Lib.hid (blk_lt (show ((w.alloc (.cells #[.int .i64 E, .int .i64 S] 36)).drewN k).heap[w.heap.size]? = _ from HZ.out))
  generalize (w.alloc (.cells #[.int .i64 E, .int .i64 S] 36)).drewN k = w1 at *
  go_upto_region 5 with fail
  go_quiet ((first | (go_at_call 115; exact Calls.quiet_of (HJ.out _ _ _ (by first | exact B1.out | exact B2.out))) | (go_at_call 124; exact Calls.quiet_of (HU.out _ _ _ B3.out))))
  go_upto_region 6 with fail
  generalize hWn : w1.drewN nq = w2 at *
  have HS0 : Hid (w2.drew.cell? ⟨w.heap.size, 0, none⟩ = some (.int .i64 E) ∧ w.heap.size < w2.drew.heap.size ∧ Below w.heap.size w w2.drew) := Lib.hid (by
    rw [← hWn]
    exact ⟨c0, HL.out, (below_drewN (n := nq) HB1.out).drew⟩)
  clear hWn c0 c1 HL HB1
  go_region_held3 (fun w' => w'.cell? ⟨w.heap.size, 0, none⟩ = some (.int .i64 E) ∧ w.heap.size < w'.heap.size ∧ Below w.heap.size w w') (first | assumption | exact HS0.out | exact s1_step (by assumption) hb) ((first | (go_at_call 114; refine (H4.out _ (HG.out.below (show _ ∧ _ ∧ Below w.heap.size w _ by assumption).2.2 HG.out.size) (HM.out.up (show _ ∧ _ ∧ Below w.heap.size w _ by assumption).2.2)).mono ?_; rintro e w' ⟨rfl, hb⟩)))
  all_goals (have HBf : Hid (Below w.heap.size w _) := Lib.hid (show _ ∧ _ ∧ Below w.heap.size w _ by assumption).2.2; go_wp2_with fail; go_ret; exact ⟨rfl, HBf.out⟩)
instance (p E S : Int) (c m : List UInt8) : Decidable (VerOk p E S c m) := by
  unfold VerOk
  infer_instance
theorem verify_any (p E S : Int) (c m : ByteArray) (w : World) (hp : I64 p) (hc : c.size ≤ 2000) (hm : m.size ≤ 10000000) (hg : Glob w) (hml : MLen w) :
    Calls Tryz.prog 94 #[.int .i64 p, .string c, .string m, .agg #[.int .i64 E, .int .i64 S]] w fun e w' => e = .returned (.bool (decide (VerOk p E S c.data.toList m.data.toList))) ∧ Below w.heap.size w w' := by
  by_cases h : p ≠ 1 ∧ InG p ∧ (0 ≤ E ∧ E < 1152921504606845789) ∧ (0 ≤ S ∧ S < 1152921504606845789)
  · have h2 := ver_in p E S c m w hc hm hg hml h.1 h.2.1 h.2.2.1 h.2.2.2
    have e : decide (VerOk p E S c.data.toList m.data.toList) = (((chalN (elemN p E S : Nat) p c.data.toList m.data.toList : Nat) : Int) == E) := by
      rw [Bool.eq_iff_iff, decide_eq_true_iff, beq_iff_eq]
      exact ⟨fun g => g.2.2.2.2, fun g => ⟨h.1, h.2.1, h.2.2.1, h.2.2.2, g⟩⟩
    rw [e]
    exact h2
  · have e : decide (VerOk p E S c.data.toList m.data.toList) = false := decide_eq_false (fun g => h ⟨g.1, g.2.1, g.2.2.1, g.2.2.2.1⟩)
    rw [e]
    exact ver_out p E S c m w hp h
end Go.Proofs.YtjbjpkhibcnenaaGreatDoor
