/- Texts merged: SNonce SKey SRight SKeyA SVer SSign SLaw -/
import Derived.Outline
import Derived.Test.YtjbjpkhibcnenaaGreatDoorSChal
import Derived.Laws.Rows
import Derived.Laws.StructEq
/- sign.nonce. -/
namespace Go.Proofs.YtjbjpkhibcnenaaGreatDoor
set_option maxRecDepth 100000
set_option maxHeartbeats 2000000
open Go.RowKit
def nonceL (r : Int) (c m : List UInt8) : List UInt8 := textL nonceB ++ (numL r ++ (textL c ++ textL m))
def nonceN (r : Int) (c m : List UInt8) : Nat := 1 + shortL (nonceL r c m) % (gQ - 1)
theorem nonce_any (r : Int) (c m : ByteArray) (w : World) (hr : I64 r) (hc : c.size ≤ 2000) (hm : m.size ≤ 2000) (hg : Glob w) (hml : MLen w) :
 Calls Tryz.prog 113 #[.int .i64 r, .string c, .string m] w fun e w' => e = .returned (.int .i64 (nonceN r c.data.toList m.data.toList : Nat)) ∧ Below w.heap.size w w' := by
 have HG := Lib.hid hg
 have HM := Lib.hid hml
 have HR := Lib.hid hr
 clear hg hml hr
 go_enter Tryz.func113, Tryz.ntmps113
 go_wp2_with fail
 refine (text_any ⟨#[110, 111, 110, 99, 101]⟩ _ (by decide) HM.out).mono ?_
 rintro e w1 ⟨rfl, hb⟩
 have HB1 := Lib.hid hb
 obtain ⟨t1, ht1⟩ : ∃ t1 : ByteArray, t1 = ⟨(textL (ByteArray.mk #[110, 111, 110, 99, 101]).data.toList).toArray⟩ := ⟨_, rfl⟩
 rw [← ht1]
 have HT1 := Lib.hid ht1
 clear hb ht1
 go_wp2_with fail
 refine (num_any r _ HR.out).mono ?_
 rintro e w2 ⟨rfl, hb⟩
 have HB2 := Lib.hid (HB1.out.trans (hb.mono HB1.out.size))
 obtain ⟨t2, ht2⟩ : ∃ t2 : ByteArray, t2 = ⟨(numL r).toArray⟩ := ⟨_, rfl⟩
 rw [← ht2]
 have HT2 := Lib.hid ht2
 clear hb ht2
 go_wp2_with fail
 refine (text_any c _ (by omega) (HM.out.up HB2.out)).mono ?_
 rintro e w4 ⟨rfl, hb⟩
 have HB4 := Lib.hid (HB2.out.trans (hb.mono HB2.out.size))
 obtain ⟨t4, ht4⟩ : ∃ t4 : ByteArray, t4 = ⟨(textL c.data.toList).toArray⟩ := ⟨_, rfl⟩
 rw [← ht4]
 have HT4 := Lib.hid ht4
 clear hb ht4
 go_wp2_with fail
 refine (text_any m _ (by omega) (HM.out.up HB4.out)).mono ?_
 rintro e w5 ⟨rfl, hb⟩
 have HB5 := Lib.hid (HB4.out.trans (hb.mono HB4.out.size))
 obtain ⟨t5, ht5⟩ : ∃ t5 : ByteArray, t5 = ⟨(textL m.data.toList).toArray⟩ := ⟨_, rfl⟩
 rw [← ht5]
 have HT5 := Lib.hid ht5
 clear hb ht5
 have HB6 := Lib.hid (HB5.out.alloc HB5.out.size (.cells #[.string t1, .string t2, .string t4, .string t5] 9))
 have HC6 := Lib.hid (heap_alloc_new w5 (.cells #[.string t1, .string t2, .string t4, .string t5] 9))
 have HF : Hid (([t1, t2, t4, t5].map (·.data.toList)).flatten = nonceL r c.data.toList m.data.toList) := Lib.hid (by
  rw [HT1.out, HT2.out, HT4.out, HT5.out]
  simp [nonceL, nonceB])
 have HLn : Hid ((([t1, t2, t4, t5].map (·.data.toList)).flatten).length ≤ 100000000) := Lib.hid (by
  rw [HF.out]
  unfold nonceL
  have a1 := textL_len nonceB
  have a2 := numL_len HR.out
  have a4 := textL_len c.data.toList
  have a5 := textL_len m.data.toList
  have b4 : c.data.toList.length ≤ 2000 := hc
  have b5 : m.data.toList.length ≤ 2000 := hm
  have b1 : nonceB.length = 5 := rfl
  simp only [List.length_append]
  omega)
 have hcl : Hid (∀ (j : Nat) x, [t1, t2, t4, t5][j]? = some x → (w5.alloc (.cells #[.string t1, .string t2, .string t4, .string t5] 9)).cell? ⟨w5.heap.size, 0 + j, none⟩ = some (.string x)) := Lib.hid (fun j x hj => by
  rw [Nat.zero_add]
  have h := cell_of_row _ _ j _ _ _ HC6.out
  rw [← Array.getElem?_toList] at h
  have h2 : ([t1, t2, t4, t5].map Value.string)[j]? = some (.string x) := by rw [List.getElem?_map, hj]; rfl
  exact h.trans h2)
 obtain ⟨z, hz⟩ : ∃ z, z = shortL (nonceL r c.data.toList m.data.toList) := ⟨_, rfl⟩
 have HZ := Lib.hid hz
 have HE : Hid (nonceN r c.data.toList m.data.toList = 1 + z % (gQ - 1)) := Lib.hid (by unfold nonceN; rw [hz])
 clear hz
 go_wp2_with fail
 refine (hash_any w5.heap.size [t1, t2, t4, t5] _ (HG.out.below HB6.out HG.out.size) hcl.out (blk_lt HC6.out) (show 4 ≤ 100 by decide) HLn.out).mono ?_
 rintro e w7 ⟨rfl, hb⟩
 rw [HF.out, ← HZ.out]
 have HB7 := Lib.hid (HB6.out.trans (hb.mono HB6.out.size))
 clear hb
 obtain ⟨y, hy⟩ : ∃ y, y = z % (gQ - 1) := ⟨_, rfl⟩
 have FY : (z : Int) % 1152921504606845788 = (y : Int) := by rw [hy]; exact (Int.natCast_emod z (gQ - 1)).symm
 have hyb : y < 1152921504606845788 := by rw [hy]; exact Nat.mod_lt _ (by decide)
 have HY := Lib.hid hy
 have hzb : z < 1152921504606846976 := by rw [HZ.out]; exact shortL_lt _
 have F1 : 1 + (z : Int) % 1152921504606845788 = ((1 + y : Nat) : Int) := by rw [FY]; omega
 clear hy
 go_wp2_with fail
 go_ret
 refine ⟨?_, HB7.out⟩
 rw [HE.out, ← HY.out]
 first | rfl | exact congrArg (fun v => Ending.returned (Value.int .i64 v)) F1 | exact congrArg (fun v => Ending.returned (Value.int .i64 v)) (F1.trans rfl)
end Go.Proofs.YtjbjpkhibcnenaaGreatDoor
/- sign.Of, Right. -/
namespace Go.Proofs.YtjbjpkhibcnenaaGreatDoor
open Go.RowKit
theorem undKey : Tryz.prog.underlying 73 = some (.struct (Tryz.prog.fieldsOf 73)) := by kernel_rfl
theorem infoKey : (Tryz.prog.info? 73).map (·.size) = some 2 := by kernel_rfl
/-- the power of the generator -/
def pubN (x : Nat) : Nat := 4 ^ x % gP
theorem two_set {w : World} {b : Nat} {x y u0 u1 : Value} {t : TypeId} (h : w.heap[b]? = some (.cells #[x, y] t (0, 0))) : ((w.setCell ⟨b, 0, none⟩ u0).setCell ⟨b, 1, none⟩ u1).heap[b]? = some (.cells #[u0, u1] t (0, 0)) := by
 have h1 := heap_setCell_same _ b 0 _ _ u0 h
 have h2 := heap_setCell_same _ b 1 _ _ u1 h1
 exact h2.trans rfl
end Go.Proofs.YtjbjpkhibcnenaaGreatDoor
/- sign.Right. -/
namespace Go.Proofs.YtjbjpkhibcnenaaGreatDoor
set_option maxRecDepth 100000
set_option maxHeartbeats 2000000
open Go.RowKit
theorem right_yes (x : Nat) (p : Int) (w : World) (h1 : 1 ≤ x) (h2 : x < 1152921504606845789) :
 Calls Tryz.prog 112 #[.agg #[.int .i64 x, .int .i64 p]] w fun e w' => e = .returned (.bool (decide (p = (pubN x : Nat)))) ∧ Below w.heap.size w w' := by
 have HZ := Lib.hid (heap_alloc_new w (.cells #[.int .i64 x, .int .i64 p] 73))
 have HB := Lib.hid ((Below.refl w.heap.size w).alloc (Nat.le_refl _) (.cells #[.int .i64 x, .int .i64 p] 73))
 obtain ⟨z, hz⟩ : ∃ z, z = pubN x := ⟨_, rfl⟩
 have HE : Hid (resN 4 gP ^ ((x : Int)).toNat % gP = z) := Lib.hid (by rw [hz, Int.toNat_natCast]; rfl)
 rw [← hz]
 clear hz
 have t1 : decide (1 ≤ (x : Int)) = true := decide_eq_true (by omega)
 have t2 : decide ((x : Int) < 1152921504606845789) = true := decide_eq_true (by omega)
 have hX : ∀ n, Calls Tryz.prog 115 #[.int .i64 4, .int .i64 x] n fun e w' => e = .returned (.int .i64 (z : Nat)) ∧ ∃ k, w' = n.drewN k := fun n => by
  have h := exp_any 4 x n (by decide) ⟨by omega, by omega⟩
  rw [HE.out] at h
  exact h
 have HX := Lib.hid hX
 clear hX
 go_enter Tryz.func112, Tryz.ntmps112
 go_upto_region 1 with fail
 generalize w.alloc (.cells #[.int .i64 x, .int .i64 p] 73) = w2 at *
 have c0 : w2.cell? ⟨w.heap.size, 0, none⟩ = some (.int .i64 x) := (cell_of_row _ _ _ _ _ _ HZ.out).trans rfl
 have c1 : w2.cell? ⟨w.heap.size, 1, none⟩ = some (.int .i64 p) := (cell_of_row _ _ _ _ _ _ HZ.out).trans rfl
 go_quiet ((go_at_call 115; exact Calls.quiet_of (HX.out _)))
 go_wp2_with fail
 go_ret
 exact ⟨rfl, below_drewN HB.out⟩
theorem right_no (x p : Int) (w : World) (h : x < 1 ∨ 1152921504606845789 ≤ x) :
 Calls Tryz.prog 112 #[.agg #[.int .i64 x, .int .i64 p]] w fun e w' => e = .returned (.bool false) ∧ Below w.heap.size w w' := by
 have HZ := Lib.hid (heap_alloc_new w (.cells #[.int .i64 x, .int .i64 p] 73))
 have HB := Lib.hid ((Below.refl w.heap.size w).alloc (Nat.le_refl _) (.cells #[.int .i64 x, .int .i64 p] 73))
 by_cases h1 : 1 ≤ x
 ·
  have t1 : decide (1 ≤ x) = true := decide_eq_true h1
  have t2 : decide (x < 1152921504606845789) = false := decide_eq_false (by omega)
  clear h h1
  go_enter Tryz.func112, Tryz.ntmps112
  go_upto_region 1 with fail
  generalize w.alloc (.cells #[.int .i64 x, .int .i64 p] 73) = w2 at *
  have c0 : w2.cell? ⟨w.heap.size, 0, none⟩ = some (.int .i64 x) := (cell_of_row _ _ _ _ _ _ HZ.out).trans rfl
  go_quiet (fail)
  go_wp2_with fail
  go_ret
  exact ⟨rfl, below_drewN HB.out⟩
 ·
  have t1 : decide (1 ≤ x) = false := decide_eq_false h1
  clear h h1
  go_enter Tryz.func112, Tryz.ntmps112
  go_upto_region 1 with fail
  generalize w.alloc (.cells #[.int .i64 x, .int .i64 p] 73) = w2 at *
  have c0 : w2.cell? ⟨w.heap.size, 0, none⟩ = some (.int .i64 x) := (cell_of_row _ _ _ _ _ _ HZ.out).trans rfl
  go_quiet (fail)
  go_wp2_with fail
  go_ret
  exact ⟨rfl, below_drewN HB.out⟩
end Go.Proofs.YtjbjpkhibcnenaaGreatDoor
/- sign.Key. -/
namespace Go.Proofs.YtjbjpkhibcnenaaGreatDoor
open Go.RowKit
def keyB : List UInt8 := [107, 101, 121]
def keyL (s : List UInt8) : List UInt8 := textL keyB ++ textL s
/-- the secret of a seed -/
def keyN (s : List UInt8) : Nat := 1 + shortL (keyL s) % (gQ - 1)
theorem keyN_bd (s : List UInt8) : 1 ≤ keyN s ∧ keyN s < 1152921504606845789 := by
 unfold keyN
 have h : shortL (keyL s) % (gQ - 1) < gQ - 1 := Nat.mod_lt _ (by decide)
 have e : gQ - 1 = 1152921504606845788 := rfl
 generalize shortL (keyL s) % (gQ - 1) = q at *
 omega
end Go.Proofs.YtjbjpkhibcnenaaGreatDoor
/- sign.Verify. -/
namespace Go.Proofs.YtjbjpkhibcnenaaGreatDoor
set_option maxRecDepth 100000
set_option maxHeartbeats 4000000
open Go.RowKit
/-- what a signature stands for -/
def elemN (p E S : Int) : Nat := (4 ^ S.toNat % gP) * (p.toNat ^ (gQ - E.toNat) % gP) % gP
def VerOk (p E S : Int) (c m : List UInt8) : Prop := p ≠ 1 ∧ InG p ∧ (0 ≤ E ∧ E < 1152921504606845789) ∧ (0 ≤ S ∧ S < 1152921504606845789) ∧ ((chalN (elemN p E S : Nat) p c m : Nat) : Int) = E
theorem mulN_nat {x y m : Nat} (hx : x < m) (hy : y < m) : mulN (x : Int) (y : Int) m = x * y % m := by
 unfold mulN
 rw [resN_of hx, resN_of hy]
theorem res4 : resN 4 gP = 4 := by decide +kernel
theorem s1_step {w cur w' : World} {nb : Nat} {b0 : Value} (h : cur.cell? ⟨nb, 0, none⟩ = some b0 ∧ nb < cur.heap.size ∧ Below w.heap.size w cur)
 (hb : Below cur.heap.size cur w') : w'.cell? ⟨nb, 0, none⟩ = some b0 ∧ nb < w'.heap.size ∧ Below w.heap.size w w' := by
 obtain ⟨h0, h5, h6⟩ := h
 exact ⟨(hb.cell (p := ⟨nb, 0, none⟩) h5).trans h0, Nat.lt_of_lt_of_le h5 hb.size, h6.trans (hb.mono h6.size)⟩
theorem ver_out (p E S : Int) (c m : ByteArray) (w : World) (hp : I64 p) (hn : ¬ (p ≠ 1 ∧ InG p ∧ (0 ≤ E ∧ E < 1152921504606845789) ∧ (0 ≤ S ∧ S < 1152921504606845789))) :
 Calls Tryz.prog 94 #[.int .i64 p, .string c, .string m, .agg #[.int .i64 E, .int .i64 S]] w fun e w' => e = .returned (.bool false) ∧ Below w.heap.size w w' := by
 have HZ := Lib.hid (heap_alloc_new w (.cells #[.int .i64 E, .int .i64 S] 36))
 have HB := Lib.hid ((Below.refl w.heap.size w).alloc (Nat.le_refl _) (.cells #[.int .i64 E, .int .i64 S] 36))
 by_cases h1 : p = 1
 ·
  subst h1
  clear hn hp
  go_enter Tryz.func94, Tryz.ntmps94
  go_wp2_with fail
  go_ret
  exact ⟨rfl, HB.out⟩
 ·
  obtain ⟨b, hb, hc⟩ : ∃ b : Bool, (b = true ↔ InG p) ∧ ∀ w0, Calls Tryz.prog 123 #[.int .i64 p] w0 fun e w' => e = .returned (.bool b) ∧ ∃ n, w' = w0.drewN n := by
   obtain ⟨b, hb, _⟩ := in_any p w hp
   refine ⟨b, hb, fun w0 => ?_⟩
   obtain ⟨b', hb', h'⟩ := in_any p w0 hp
   have e : b = b' := by
    rw [Bool.eq_iff_iff, hb, hb']
   rw [e]
   exact h'
  have HC := Lib.hid hc
  have t1 : (p == 1) = false := by rw [beq_eq_false_iff_ne]; exact h1
  clear hc
  cases b with
  | false =>
   clear hn hp hb h1
   go_enter Tryz.func94, Tryz.ntmps94
   go_wp2_with fail
   refine (HC.out _).mono ?_
   rintro e w1 ⟨rfl, k, rfl⟩
   have HB1 := Lib.hid (below_drewN (n := k) HB.out)
   go_wp2_with fail
   go_ret
   exact ⟨rfl, HB1.out⟩
  | true =>
   have hIn : InG p := hb.1 rfl
   have hd : E < 0 ∨ (0 ≤ E ∧ 1152921504606845789 ≤ E) ∨ (0 ≤ E ∧ E < 1152921504606845789 ∧ S < 0) ∨ (0 ≤ E ∧ E < 1152921504606845789 ∧ 0 ≤ S ∧ 1152921504606845789 ≤ S) := by
    by_cases e1 : E < 0
    · exact .inl e1
    ·
     by_cases e2 : E < 1152921504606845789
     ·
      by_cases e3 : S < 0
      · exact .inr (.inr (.inl ⟨by omega, e2, e3⟩))
      ·
       by_cases e4 : S < 1152921504606845789
       · exact absurd ⟨h1, hIn, ⟨by omega, e2⟩, ⟨by omega, e4⟩⟩ hn
       · exact .inr (.inr (.inr ⟨by omega, e2, by omega, by omega⟩))
     · exact .inr (.inl ⟨by omega, by omega⟩)
   clear hn hp hb h1 hIn
   go_enter Tryz.func94, Tryz.ntmps94
   go_wp2_with fail
   refine (HC.out _).mono ?_
   rintro e w1 ⟨rfl, k, rfl⟩
   have HB1 := Lib.hid (below_drewN (n := k) HB.out)
   have c0 : ((w.alloc (.cells #[.int .i64 E, .int .i64 S] 36)).drewN k).cell? ⟨w.heap.size, 0, none⟩ = some (.int .i64 E) := (cell_of_row _ _ _ _ _ _ HZ.out).trans rfl
   have c1 : ((w.alloc (.cells #[.int .i64 E, .int .i64 S] 36)).drewN k).cell? ⟨w.heap.size, 1, none⟩ = some (.int .i64 S) := (cell_of_row _ _ _ _ _ _ HZ.out).trans rfl
   generalize (w.alloc (.cells #[.int .i64 E, .int .i64 S] 36)).drewN k = w1 at *
   rcases hd with d | d | d | d
   ·
    have u1 : decide (E < 0) = true := decide_eq_true d
    clear d
    go_wp2_with fail
    go_ret
    exact ⟨rfl, HB1.out⟩
   ·
    have u1 : decide (E < 0) = false := decide_eq_false (by omega)
    have u2 : decide (1152921504606845789 ≤ E) = true := decide_eq_true d.2
    clear d
    go_wp2_with fail
    go_ret
    exact ⟨rfl, HB1.out⟩
   ·
    have u1 : decide (E < 0) = false := decide_eq_false (by omega)
    have u2 : decide (1152921504606845789 ≤ E) = false := decide_eq_false (by omega)
    have u3 : decide (S < 0) = true := decide_eq_true d.2.2
    clear d
    go_wp2_with fail
    go_ret
    exact ⟨rfl, HB1.out⟩
   ·
    have u1 : decide (E < 0) = false := decide_eq_false (by omega)
    have u2 : decide (1152921504606845789 ≤ E) = false := decide_eq_false (by omega)
    have u3 : decide (S < 0) = false := decide_eq_false (by omega)
    have u4 : decide (1152921504606845789 ≤ S) = true := decide_eq_true d.2.2.2
    clear d
    go_wp2_with fail
    go_ret
    exact ⟨rfl, HB1.out⟩
theorem ver_in (p E S : Int) (c m : ByteArray) (w : World) (hc : c.size ≤ 2000) (hm : m.size ≤ 10000000) (hg : Glob w) (hml : MLen w)
 (h1 : p ≠ 1) (hI : InG p) (hE : 0 ≤ E ∧ E < 1152921504606845789) (hS : 0 ≤ S ∧ S < 1152921504606845789) :
 Calls Tryz.prog 94 #[.int .i64 p, .string c, .string m, .agg #[.int .i64 E, .int .i64 S]] w fun e w' => e = .returned (.bool (((chalN (elemN p E S : Nat) p c.data.toList m.data.toList : Nat) : Int) == E)) ∧ Below w.heap.size w w' := by
 have HZ := Lib.hid (heap_alloc_new w (.cells #[.int .i64 E, .int .i64 S] 36))
 have HB := Lib.hid ((Below.refl w.heap.size w).alloc (Nat.le_refl _) (.cells #[.int .i64 E, .int .i64 S] 36))
 have hp : I64 p := ⟨by have := hI.1; omega, by have := hI.2.1; omega⟩
 have HC : Hid (∀ w0, Calls Tryz.prog 123 #[.int .i64 p] w0 fun e w' => e = .returned (.bool true) ∧ ∃ n, w' = w0.drewN n) := Lib.hid (fun w0 => by
  obtain ⟨b, hb, h⟩ := in_any p w0 hp
  rw [hb.2 hI] at h
  exact h)
 obtain ⟨J, hJ⟩ : ∃ J : Int → Int → Int, J = fun a e => ((resN a gP ^ e.toNat % gP : Nat) : Int) := ⟨_, rfl⟩
 obtain ⟨M, hM⟩ : ∃ M : Int → Int → Int, M = fun a b => ((mulN a b gP : Nat) : Int) := ⟨_, rfl⟩
 obtain ⟨q, hq⟩ : ∃ q : Int, q = 1152921504606845789 - E := ⟨_, rfl⟩
 have HJ : Hid (∀ a e n, I64 a ∧ 0 ≤ e ∧ e ≤ 9223372036854775807 → Calls Tryz.prog 115 #[.int .i64 a, .int .i64 e] n fun e' w' => e' = .returned (.int .i64 (J a e)) ∧ ∃ k, w' = n.drewN k) := Lib.hid (fun a e n h => by rw [hJ]; exact exp_any a e n h.1 h.2)
 have HU : Hid (∀ a b n, I64 a ∧ I64 b → Calls Tryz.prog 124 #[.int .i64 a, .int .i64 b] n fun e' w' => e' = .returned (.int .i64 (M a b)) ∧ ∃ k, w' = n.drewN k) := Lib.hid (fun a b n h => by rw [hM]; exact mul_any a b n h.1 h.2)
 have e1 : J 4 S = ((4 ^ S.toNat % gP : Nat) : Int) := by rw [hJ]; show ((resN 4 gP ^ S.toNat % gP : Nat) : Int) = _; rw [res4]
 have e2 : J p q = ((p.toNat ^ (gQ - E.toNat) % gP : Nat) : Int) := by
  rw [hJ]
  show ((resN p gP ^ q.toNat % gP : Nat) : Int) = _
  rw [resN_in hI.1 hI.2.1]
  have e : q.toNat = gQ - E.toNat := by show q.toNat = 1152921504606845789 - E.toNat; omega
  rw [e]
 have e3 : M (J 4 S) (J p q) = ((elemN p E S : Nat) : Int) := by
  rw [e1, e2, hM]
  show ((mulN _ _ gP : Nat) : Int) = _
  rw [mulN_nat (m := gP) (lt_p _) (lt_p _)]
  rfl
 have B1 : Hid (I64 (4 : Int) ∧ 0 ≤ S ∧ S ≤ 9223372036854775807) := Lib.hid ⟨⟨by omega, by omega⟩, by omega, by omega⟩
 have B2 : Hid (I64 p ∧ 0 ≤ q ∧ q ≤ 9223372036854775807) := Lib.hid ⟨hp, by omega, by omega⟩
 have B3 : Hid (I64 (J 4 S) ∧ I64 (J p q)) := Lib.hid (by
  rw [e1, e2]
  have a1 : 4 ^ S.toNat % gP < 2305843009213691579 := lt_p _
  have a2 : p.toNat ^ (gQ - E.toNat) % gP < 2305843009213691579 := lt_p _
  generalize 4 ^ S.toNat % gP = z1 at *
  generalize p.toNat ^ (gQ - E.toNat) % gP = z2 at *
  exact ⟨⟨by omega, by omega⟩, ⟨by omega, by omega⟩⟩)
 obtain ⟨x3, hx3⟩ : ∃ x3, x3 = elemN p E S := ⟨_, rfl⟩
 have hx3l : x3 < 2305843009213691579 := by rw [hx3]; exact lt_p _
 rw [← hx3] at e3 ⊢
 obtain ⟨y, hy⟩ : ∃ y, y = chalN (x3 : Nat) p c.data.toList m.data.toList := ⟨_, rfl⟩
 rw [← hy]
 have H4 : Hid (∀ n, Glob n → MLen n → Calls Tryz.prog 114 #[.int .i64 (M (J 4 S) (J p q)), .int .i64 p, .string c, .string m] n fun e w' => e = .returned (.int .i64 (y : Nat)) ∧ Below n.heap.size n w') := Lib.hid (fun n a b => by
  have h := chal_any x3 p c m n ⟨by omega, by omega⟩ hp hc hm a b
  rw [← hy, ← e3] at h
  exact h)
 clear e1 e2 e3
 have HG := Lib.hid hg
 have HM := Lib.hid hml
 have t1 : (p == 1) = false := by rw [beq_eq_false_iff_ne]; exact h1
 have u1 : decide (E < 0) = false := decide_eq_false (by omega)
 have u2 : decide (1152921504606845789 ≤ E) = false := decide_eq_false (by omega)
 have u3 : decide (S < 0) = false := decide_eq_false (by omega)
 have u4 : decide (1152921504606845789 ≤ S) = false := decide_eq_false (by omega)
 have hq2 : 1152921504606845789 - E = q := hq.symm
 have hqb : 0 ≤ q ∧ q ≤ 1152921504606845789 := ⟨by omega, by omega⟩
 clear hJ hM hx3 hy hg hml hc hm h1 hI hp hq
 go_enter Tryz.func94, Tryz.ntmps94
 go_wp2_with fail
 refine (HC.out _).mono ?_
 rintro e w1 ⟨rfl, k, rfl⟩
 have HB1 := Lib.hid (below_drewN (n := k) HB.out)
 have c0 : ((w.alloc (.cells #[.int .i64 E, .int .i64 S] 36)).drewN k).cell? ⟨w.heap.size, 0, none⟩ = some (.int .i64 E) := (cell_of_row _ _ _ _ _ _ HZ.out).trans rfl
 have c1 : ((w.alloc (.cells #[.int .i64 E, .int .i64 S] 36)).drewN k).cell? ⟨w.heap.size, 1, none⟩ = some (.int .i64 S) := (cell_of_row _ _ _ _ _ _ HZ.out).trans rfl
 have HL : Hid (w.heap.size < ((w.alloc (.cells #[.int .i64 E, .int .i64 S] 36)).drewN k).heap.size) := Lib.hid (blk_lt (show ((w.alloc (.cells #[.int .i64 E, .int .i64 S] 36)).drewN k).heap[w.heap.size]? = _ from HZ.out))
 generalize (w.alloc (.cells #[.int .i64 E, .int .i64 S] 36)).drewN k = w1 at *
 go_upto_region 5 with fail
 go_quiet ((first | (go_at_call 115; exact Calls.quiet_of (HJ.out _ _ _ (by first | exact B1.out | exact B2.out))) | (go_at_call 124; exact Calls.quiet_of (HU.out _ _ _ B3.out))))
 go_upto_region 6 with fail
 generalize hWn : w1.drewN nq = w2 at *
 have HS0 : Hid (w2.drew.cell? ⟨w.heap.size, 0, none⟩ = some (.int .i64 E) ∧ w.heap.size < w2.drew.heap.size ∧ Below w.heap.size w w2.drew) := Lib.hid (by
  rw [← hWn]
  exact ⟨c0, HL.out, (below_drewN (n := nq) HB1.out).drew⟩)
 clear hWn c0 c1 HL HB1
 go_region_held3 (fun w' => w'.cell? ⟨w.heap.size, 0, none⟩ = some (.int .i64 E) ∧ w.heap.size < w'.heap.size ∧ Below w.heap.size w w') (first | assumption | exact HS0.out | exact s1_step (by assumption) hb) ((first | (go_at_call 114; refine (H4.out _ (HG.out.below (show _ ∧ _ ∧ Below w.heap.size w _ by assumption).2.2 HG.out.size) (HM.out.up (show _ ∧ _ ∧ Below w.heap.size w _ by assumption).2.2)).mono ?_; rintro e w' ⟨rfl, hb⟩)))
 all_goals (have HBf : Hid (Below w.heap.size w _) := Lib.hid (show _ ∧ _ ∧ Below w.heap.size w _ by assumption).2.2; go_wp2_with fail; go_ret; exact ⟨rfl, HBf.out⟩)
instance (p E S : Int) (c m : List UInt8) : Decidable (VerOk p E S c m) := by
 unfold VerOk
 infer_instance
theorem verify_any (p E S : Int) (c m : ByteArray) (w : World) (hp : I64 p) (hc : c.size ≤ 2000) (hm : m.size ≤ 10000000) (hg : Glob w) (hml : MLen w) :
 Calls Tryz.prog 94 #[.int .i64 p, .string c, .string m, .agg #[.int .i64 E, .int .i64 S]] w fun e w' => e = .returned (.bool (decide (VerOk p E S c.data.toList m.data.toList))) ∧ Below w.heap.size w w' := by
 by_cases h : p ≠ 1 ∧ InG p ∧ (0 ≤ E ∧ E < 1152921504606845789) ∧ (0 ≤ S ∧ S < 1152921504606845789)
 ·
  have h2 := ver_in p E S c m w hc hm hg hml h.1 h.2.1 h.2.2.1 h.2.2.2
  have e : decide (VerOk p E S c.data.toList m.data.toList) = (((chalN (elemN p E S : Nat) p c.data.toList m.data.toList : Nat) : Int) == E) := by
   rw [Bool.eq_iff_iff, decide_eq_true_iff, beq_iff_eq]
   exact ⟨fun g => g.2.2.2.2, fun g => ⟨h.1, h.2.1, h.2.2.1, h.2.2.2, g⟩⟩
  rw [e]
  exact h2
 ·
  have e : decide (VerOk p E S c.data.toList m.data.toList) = false := decide_eq_false (fun g => h ⟨g.1, g.2.1, g.2.2.1, g.2.2.2.1⟩)
  rw [e]
  exact ver_out p E S c m w hp h
end Go.Proofs.YtjbjpkhibcnenaaGreatDoor
/- sign.Sign. -/
namespace Go.Proofs.YtjbjpkhibcnenaaGreatDoor
set_option maxRecDepth 100000
set_option maxHeartbeats 4000000
open Go.RowKit
theorem undSig : Tryz.prog.underlying 36 = some (.struct (Tryz.prog.fieldsOf 36)) := by kernel_rfl
theorem infoSig : (Tryz.prog.info? 36).map (·.size) = some 2 := by kernel_rfl
def sgE (x : Nat) (c m : List UInt8) : Nat := chalN (4 ^ nonceN x c m % gP : Nat) (pubN x : Nat) c m
def sgS (x : Nat) (c m : List UInt8) : Nat := (nonceN x c m + sgE x c m * x) % gQ
def RightK (x p : Int) : Prop := 1 ≤ x ∧ x < 1152921504606845789 ∧ p = (pubN x.toNat : Nat)
instance (x p : Int) : Decidable (RightK x p) := by
 unfold RightK
 infer_instance
theorem rightK_any (x p : Int) (w : World) :
 Calls Tryz.prog 112 #[.agg #[.int .i64 x, .int .i64 p]] w fun e w' => e = .returned (.bool (decide (RightK x p))) ∧ Below w.heap.size w w' := by
 by_cases h : 1 ≤ x ∧ x < 1152921504606845789
 ·
  obtain ⟨n, rfl⟩ : ∃ n : Nat, x = n := ⟨x.toNat, by omega⟩
  have e : decide (RightK (n : Int) p) = decide (p = (pubN n : Nat)) := by
   rw [Bool.eq_iff_iff, decide_eq_true_iff, decide_eq_true_iff]
   exact ⟨fun g => g.2.2, fun g => ⟨h.1, h.2, g⟩⟩
  rw [e]
  exact right_yes n p w (by omega) (by omega)
 ·
  have e : decide (RightK x p) = false := decide_eq_false (fun g => h ⟨g.1, g.2.1⟩)
  rw [e]
  exact right_no x p w (by omega)
theorem nonceN_bd (r : Int) (c m : List UInt8) : 1 ≤ nonceN r c m ∧ nonceN r c m < 1152921504606845789 := by
 unfold nonceN
 have h : shortL (nonceL r c m) % (gQ - 1) < gQ - 1 := Nat.mod_lt _ (by decide)
 have e : gQ - 1 = 1152921504606845788 := rfl
 generalize shortL (nonceL r c m) % (gQ - 1) = q at *
 omega
theorem chalN_lt (r p : Int) (c m : List UInt8) : chalN r p c m < 1152921504606845789 := Nat.mod_lt _ (by decide)
theorem sum_q {n e x : Nat} (hn : n < gQ) (he : e < gQ) (hx : x < gQ) : (resN (n : Int) gQ + resN (mulN (e : Int) (x : Int) gQ : Nat) gQ) % gQ = (n + e * x) % gQ := by
 rw [mulN_nat he hx, resN_of hn, resN_of (Nat.mod_lt _ (by decide)), Nat.add_mod_mod]
theorem sg_step {w cur w' : World} {k : Nat} {A B : Obj} {v : Value} (h : (cur.heap[k]? = some A ∧ cur.heap[k + 1]? = some B) ∧ cur.cell? ⟨k, 1, none⟩ = some v ∧ Below w.heap.size w cur) (hb : Below cur.heap.size cur w') :
 (w'.heap[k]? = some A ∧ w'.heap[k + 1]? = some B) ∧ w'.cell? ⟨k, 1, none⟩ = some v ∧ Below w.heap.size w w' := by
 obtain ⟨⟨a, b⟩, c, d⟩ := h
 exact ⟨⟨blk_below a hb (blk_lt a), blk_below b hb (blk_lt b)⟩, (hb.cell (p := ⟨k, 1, none⟩) (blk_lt a)).trans c, d.trans (hb.mono d.size)⟩
theorem sg_stepN {w cur : World} {k : Nat} {A B : Obj} {v : Value} (h : (cur.heap[k]? = some A ∧ cur.heap[k + 1]? = some B) ∧ cur.cell? ⟨k, 1, none⟩ = some v ∧ Below w.heap.size w cur) (j : Nat) :
 ((cur.drewN j).heap[k]? = some A ∧ (cur.drewN j).heap[k + 1]? = some B) ∧ (cur.drewN j).cell? ⟨k, 1, none⟩ = some v ∧ Below w.heap.size w (cur.drewN j) := by
 obtain ⟨⟨a, b⟩, c, d⟩ := h
 exact ⟨⟨a, b⟩, c, below_drewN d⟩
theorem sign_yes (x : Nat) (c m : ByteArray) (w : World) (h1 : 1 ≤ x) (h2 : x < 1152921504606845789) (hc : c.size ≤ 2000) (hm : m.size ≤ 2000) (hg : Glob w) (hml : MLen w) :
 Calls Tryz.prog 85 #[.agg #[.int .i64 x, .int .i64 (pubN x : Nat)], .string c, .string m] w fun e w' => e = .returned (.agg #[.int .i64 (sgE x c.data.toList m.data.toList : Nat), .int .i64 (sgS x c.data.toList m.data.toList : Nat)]) ∧ Below w.heap.size w w' := by
 obtain ⟨p, hp⟩ : ∃ p : Nat, p = pubN x := ⟨_, rfl⟩
 obtain ⟨n, hn⟩ : ∃ n, n = nonceN x c.data.toList m.data.toList := ⟨_, rfl⟩
 obtain ⟨r, hr⟩ : ∃ r, r = 4 ^ n % gP := ⟨_, rfl⟩
 obtain ⟨y, hy⟩ : ∃ y, y = sgE x c.data.toList m.data.toList := ⟨_, rfl⟩
 obtain ⟨s, hs⟩ : ∃ s, s = sgS x c.data.toList m.data.toList := ⟨_, rfl⟩
 have hnb := nonceN_bd x c.data.toList m.data.toList
 rw [← hn] at hnb
 have hyb : y < 1152921504606845789 := by rw [hy]; exact chalN_lt _ _ _ _
 have hpl : p < 2305843009213691579 := by rw [hp]; exact lt_p _
 have hrl : r < 2305843009213691579 := by rw [hr]; exact lt_p _
 have HR : Hid (∀ w0, Calls Tryz.prog 112 #[.agg #[.int .i64 x, .int .i64 p]] w0 fun e w' => e = .returned (.bool true) ∧ Below w0.heap.size w0 w') := Lib.hid (fun w0 => by
  have h := right_yes x p w0 h1 h2
  rw [decide_eq_true (by rw [hp] : (p : Int) = (pubN x : Nat))] at h
  exact h)
 have HN : Hid (∀ w0, Glob w0 → MLen w0 → Calls Tryz.prog 113 #[.int .i64 x, .string c, .string m] w0 fun e w' => e = .returned (.int .i64 (n : Nat)) ∧ Below w0.heap.size w0 w') := Lib.hid (fun w0 a b => by
  rw [hn]; exact nonce_any x c m w0 ⟨by omega, by omega⟩ hc (Nat.le_trans hm (by decide)) a b)
 have HE : Hid (∀ w0, Calls Tryz.prog 115 #[.int .i64 4, .int .i64 n] w0 fun e w' => e = .returned (.int .i64 (r : Nat)) ∧ ∃ k, w' = w0.drewN k) := Lib.hid (fun w0 => by
  have h := exp_any 4 n w0 ⟨by omega, by omega⟩ ⟨by omega, by omega⟩
  rw [res4, Int.toNat_natCast, ← hr] at h
  exact h)
 have HC : Hid (∀ w0, Glob w0 → MLen w0 → Calls Tryz.prog 114 #[.int .i64 (r : Nat), .int .i64 p, .string c, .string m] w0 fun e w' => e = .returned (.int .i64 (y : Nat)) ∧ Below w0.heap.size w0 w') := Lib.hid (fun w0 a b => by
  have h := chal_any r p c m w0 ⟨by omega, by omega⟩ ⟨by omega, by omega⟩ hc (Nat.le_trans hm (by decide)) a b
  have e : chalN (r : Nat) (p : Nat) c.data.toList m.data.toList = y := by rw [hy, hr, hp, hn]; rfl
  rw [e] at h
  exact h)
 have HQ : Hid (∀ w0, Calls Tryz.prog 117 #[.int .i64 y, .int .i64 x] w0 fun e w' => e = .returned (.int .i64 (mulN y x gQ : Nat)) ∧ ∃ k, w' = w0.drewN k) := Lib.hid (fun w0 => mulQ_any y x w0 ⟨by omega, by omega⟩ ⟨by omega, by omega⟩)
 have hzb : mulN (y : Int) (x : Int) gQ < 1152921504606845789 := mulN_lt _ _ (by decide)
 have HA : Hid (∀ w0, Calls Tryz.prog 116 #[.int .i64 n, .int .i64 (mulN y x gQ : Nat)] w0 fun e w' => e = .returned (.int .i64 (s : Nat)) ∧ w' = w0) := Lib.hid (fun w0 => by
  have h := addQ_any n (mulN y x gQ : Nat) w0 ⟨by omega, by omega⟩ ⟨by omega, by omega⟩
  have e : (n + y * x) % gQ = s := by rw [hs, hy, hn]; rfl
  rw [sum_q (by show n < 1152921504606845789; omega) hyb h2, e] at h
  exact h)
 generalize mulN (y : Int) (x : Int) gQ = z at *
 rw [← hp, ← hy, ← hs]
 have HK0 := Lib.hid (heap_alloc_new w (.cells #[.int .i64 x, .int .i64 p] 73))
 have HB0 := Lib.hid ((Below.refl w.heap.size w).alloc (Nat.le_refl _) (.cells #[.int .i64 x, .int .i64 p] 73))
 have HG := Lib.hid hg
 have HM := Lib.hid hml
 clear hp hn hr hy hs hnb hyb hpl hrl h1 h2 hc hm hg hml hzb
 go_enter Tryz.func85, Tryz.ntmps85
 go_upto_region 1 with fail
 have hR0 := heap_alloc_new (w.alloc (.cells #[.int .i64 x, .int .i64 p] 73)) (.cells #[.int .i64 0, .int .i64 0] 36)
 have hK1 : ((w.alloc (.cells #[.int .i64 x, .int .i64 p] 73)).alloc (.cells #[.int .i64 0, .int .i64 0] 36)).heap[w.heap.size]? = some (.cells #[.int .i64 x, .int .i64 p] 73) := blk_below HK0.out ((Below.refl _ _).alloc (Nat.le_refl _) _) (blk_lt HK0.out)
 have hs1 : (w.alloc (.cells #[.int .i64 x, .int .i64 p] 73)).heap.size = w.heap.size + 1 := World.size_alloc _ _
 have HB1 := Lib.hid (HB0.out.alloc HB0.out.size (.cells #[.int .i64 0, .int .i64 0] 36))
 rw [hs1] at hR0
 have HR0 := Lib.hid hR0
 have HK1 := Lib.hid hK1
 clear hR0 hK1 hs1 HK0 HB0
 generalize (w.alloc (.cells #[.int .i64 x, .int .i64 p] 73)).alloc (.cells #[.int .i64 0, .int .i64 0] 36) = w2 at *
 obtain ⟨k0, k1⟩ : w2.cell? ⟨w.heap.size, 0, none⟩ = some (.int .i64 x) ∧ w2.cell? ⟨w.heap.size, 1, none⟩ = some (.int .i64 p) := ⟨(cell_of_row _ _ _ _ _ _ HK1.out).trans rfl, (cell_of_row _ _ _ _ _ _ HK1.out).trans rfl⟩
 go_wp2_with fail
 refine (HR.out _).mono ?_
 rintro e w3 ⟨rfl, hb⟩
 have HB3 := Lib.hid (HB1.out.trans (hb.mono HB1.out.size))
 have HK3 := Lib.hid (blk_below HK1.out hb (blk_lt HK1.out))
 have HR3 := Lib.hid (blk_below HR0.out hb (blk_lt HR0.out))
 clear hb k0 k1 HB1 HK1 HR0
 obtain ⟨k0, k1⟩ : w3.cell? ⟨w.heap.size, 0, none⟩ = some (.int .i64 x) ∧ w3.cell? ⟨w.heap.size, 1, none⟩ = some (.int .i64 p) := ⟨(cell_of_row _ _ _ _ _ _ HK3.out).trans rfl, (cell_of_row _ _ _ _ _ _ HK3.out).trans rfl⟩
 go_wp2_with fail
 refine (HN.out _ (HG.out.below HB3.out HG.out.size) (HM.out.up HB3.out)).mono ?_
 rintro e w4 ⟨rfl, hb⟩
 have HB4 := Lib.hid (HB3.out.trans (hb.mono HB3.out.size))
 have HK4 := Lib.hid (blk_below HK3.out hb (blk_lt HK3.out))
 have HR4 := Lib.hid (blk_below HR3.out hb (blk_lt HR3.out))
 clear hb k0 k1 HB3 HK3 HR3
 go_upto_region 4 with fail
 have HS0 : Hid ((w4.heap[w.heap.size]? = some (.cells #[.int .i64 x, .int .i64 p] 73) ∧ w4.heap[w.heap.size + 1]? = some (.cells #[.int .i64 0, .int .i64 0] 36)) ∧ w4.cell? ⟨w.heap.size, 1, none⟩ = some (.int .i64 p) ∧ Below w.heap.size w w4) := Lib.hid
  ⟨⟨HK4.out, HR4.out⟩, (cell_of_row _ _ _ _ _ _ HK4.out).trans rfl, HB4.out⟩
 clear HK4 HR4 HB4
 go_region_held3 (fun w' => (w'.heap[w.heap.size]? = some (.cells #[.int .i64 x, .int .i64 p] 73) ∧ w'.heap[w.heap.size + 1]? = some (.cells #[.int .i64 0, .int .i64 0] 36)) ∧ w'.cell? ⟨w.heap.size, 1, none⟩ = some (.int .i64 p) ∧ Below w.heap.size w w') (first | assumption | exact HS0.out | exact sg_step (by assumption) hb | exact sg_stepN (by assumption) _) ((first | (go_at_call 115; refine (HE.out _).mono ?_; rintro e w' ⟨rfl, k, rfl⟩) | (go_at_call 114; refine (HC.out _ (HG.out.below (show _ ∧ _ ∧ Below w.heap.size w _ by assumption).2.2 HG.out.size) (HM.out.up (show _ ∧ _ ∧ Below w.heap.size w _ by assumption).2.2)).mono ?_; rintro e w' ⟨rfl, hb⟩)))
 rename_i w' hFin
 obtain ⟨⟨hk, hr⟩, -, hbw⟩ := hFin
 clear hb
 have HK5 := Lib.hid hk
 have HR5 := Lib.hid hr
 have HB5 := Lib.hid hbw
 clear hk hr hbw
 have k0 : w'.cell? ⟨w.heap.size, 0, none⟩ = some (.int .i64 x) := (cell_of_row _ _ _ _ _ _ HK5.out).trans rfl
 go_wp2_with fail
 refine (HQ.out _).mono ?_
 rintro e w6 ⟨rfl, k6, rfl⟩
 have HB6 := Lib.hid (below_drewN (n := k6) HB5.out)
 have HR6 : Hid ((w'.drewN k6).heap[w.heap.size + 1]? = some (.cells #[.int .i64 0, .int .i64 0] 36)) := Lib.hid HR5.out
 generalize w'.drewN k6 = w6 at *
 go_wp2_with fail
 refine (HA.out _).mono ?_
 rintro e w7 ⟨rfl, rfl⟩
 obtain ⟨r0, r1⟩ : w7.cell? ⟨w.heap.size + 1, 0, none⟩ = some (.int .i64 0) ∧ w7.cell? ⟨w.heap.size + 1, 1, none⟩ = some (.int .i64 0) := ⟨(cell_of_row _ _ _ _ _ _ HR6.out).trans rfl, (cell_of_row _ _ _ _ _ _ HR6.out).trans rfl⟩
 have f0 : ∀ j, w7.frozen? ⟨w.heap.size + 1, j, none⟩ = false := fun j => frozen_of_row _ _ _ _ _ HR6.out
 go_wp2_with fail
 refine bodyPost_ret (v := .agg #[.int .i64 y, .int .i64 s]) (results_cell_row rfl _ _ _ 36 _ (0, 0) _ rfl (two_set HR6.out) undSig rfl infoSig) rfl ⟨rfl, ?_⟩
 exact (HB6.out.setCell (Nat.le_succ _) _).setCell (Nat.le_succ _) _
theorem sign_no (x p : Int) (c m : ByteArray) (w : World) (h : ¬ RightK x p) :
 Calls Tryz.prog 85 #[.agg #[.int .i64 x, .int .i64 p], .string c, .string m] w fun e w' => e = .returned (.agg #[.int .i64 0, .int .i64 0]) ∧ Below w.heap.size w w' := by
 have HR : Hid (∀ w0, Calls Tryz.prog 112 #[.agg #[.int .i64 x, .int .i64 p]] w0 fun e w' => e = .returned (.bool false) ∧ Below w0.heap.size w0 w') := Lib.hid (fun w0 => by
  have h2 := rightK_any x p w0
  rw [decide_eq_false h] at h2
  exact h2)
 have HK0 := Lib.hid (heap_alloc_new w (.cells #[.int .i64 x, .int .i64 p] 73))
 have HB0 := Lib.hid ((Below.refl w.heap.size w).alloc (Nat.le_refl _) (.cells #[.int .i64 x, .int .i64 p] 73))
 clear h
 go_enter Tryz.func85, Tryz.ntmps85
 go_upto_region 1 with fail
 have hR0 := heap_alloc_new (w.alloc (.cells #[.int .i64 x, .int .i64 p] 73)) (.cells #[.int .i64 0, .int .i64 0] 36)
 have hK1 : ((w.alloc (.cells #[.int .i64 x, .int .i64 p] 73)).alloc (.cells #[.int .i64 0, .int .i64 0] 36)).heap[w.heap.size]? = some (.cells #[.int .i64 x, .int .i64 p] 73) := blk_below HK0.out ((Below.refl _ _).alloc (Nat.le_refl _) _) (blk_lt HK0.out)
 have hs1 : (w.alloc (.cells #[.int .i64 x, .int .i64 p] 73)).heap.size = w.heap.size + 1 := World.size_alloc _ _
 have HB1 := Lib.hid (HB0.out.alloc HB0.out.size (.cells #[.int .i64 0, .int .i64 0] 36))
 rw [hs1] at hR0
 have HR0 := Lib.hid hR0
 have HK1 := Lib.hid hK1
 clear hR0 hK1 hs1 HK0 HB0
 generalize (w.alloc (.cells #[.int .i64 x, .int .i64 p] 73)).alloc (.cells #[.int .i64 0, .int .i64 0] 36) = w2 at *
 obtain ⟨k0, k1⟩ : w2.cell? ⟨w.heap.size, 0, none⟩ = some (.int .i64 x) ∧ w2.cell? ⟨w.heap.size, 1, none⟩ = some (.int .i64 p) := ⟨(cell_of_row _ _ _ _ _ _ HK1.out).trans rfl, (cell_of_row _ _ _ _ _ _ HK1.out).trans rfl⟩
 go_wp2_with fail
 refine (HR.out _).mono ?_
 rintro e w3 ⟨rfl, hb⟩
 have HB3 := Lib.hid (HB1.out.trans (hb.mono HB1.out.size))
 have HR6 := Lib.hid (blk_below HR0.out hb (blk_lt HR0.out))
 clear hb k0 k1 HB1 HK1 HR0
 obtain ⟨r0, r1⟩ : w3.cell? ⟨w.heap.size + 1, 0, none⟩ = some (.int .i64 0) ∧ w3.cell? ⟨w.heap.size + 1, 1, none⟩ = some (.int .i64 0) := ⟨(cell_of_row _ _ _ _ _ _ HR6.out).trans rfl, (cell_of_row _ _ _ _ _ _ HR6.out).trans rfl⟩
 have f0 : ∀ j, w3.frozen? ⟨w.heap.size + 1, j, none⟩ = false := fun j => frozen_of_row _ _ _ _ _ HR6.out
 go_wp2_with fail
 refine bodyPost_ret (v := .agg #[.int .i64 0, .int .i64 0]) (results_cell_row rfl _ _ _ 36 _ (0, 0) _ rfl (two_set HR6.out) undSig rfl infoSig) rfl ⟨rfl, ?_⟩
 exact (HB3.out.setCell (Nat.le_succ _) _).setCell (Nat.le_succ _) _
/-- the signature, whatever the key -/
def signR (x p : Int) (c m : List UInt8) : Int × Int := if RightK x p then ((sgE x.toNat c m : Nat), (sgS x.toNat c m : Nat)) else (0, 0)
theorem sign_any (x p : Int) (c m : ByteArray) (w : World) (hc : c.size ≤ 2000) (hm : m.size ≤ 2000) (hg : Glob w) (hml : MLen w) :
 Calls Tryz.prog 85 #[.agg #[.int .i64 x, .int .i64 p], .string c, .string m] w fun e w' => e = .returned (.agg #[.int .i64 (signR x p c.data.toList m.data.toList).1, .int .i64 (signR x p c.data.toList m.data.toList).2]) ∧ Below w.heap.size w w' := by
 unfold signR
 by_cases h : RightK x p
 ·
  rw [if_pos h]
  obtain ⟨n, rfl⟩ : ∃ n : Nat, x = n := ⟨x.toNat, by have := h.1; omega⟩
  have h2 : p = (pubN n : Nat) := h.2.2
  rw [h2]
  exact sign_yes n c m w (by have := h.1; omega) (by have := h.2.1; omega) hc hm hg hml
 ·
  rw [if_neg h]
  exact sign_no x p c m w h
end Go.Proofs.YtjbjpkhibcnenaaGreatDoor
/- Package sign: plain laws of signatures. -/
namespace Go.Proofs.YtjbjpkhibcnenaaGreatDoor
open Go.RowKit
theorem pub_lt (x : Nat) : pubN x < 2305843009213691579 := lt_p _
theorem pub_in (x : Nat) : InG ((pubN x : Nat) : Int) := by
 have h := four_in x
 have h1 := in_pos h
 have h2 := pub_lt x
 refine ⟨?_, by omega, ?_⟩
 ·
  have h3 : 1 ≤ pubN x := h1
  omega
 ·
  rw [Int.toNat_natCast]
  exact h
theorem pub_ne {x : Nat} (h1 : 1 ≤ x) (h2 : x < 1152921504606845789) : ((pubN x : Nat) : Int) ≠ 1 := by
 have h := four_ne (x := x) h1 h2
 have h3 : pubN x ≠ 1 := h
 omega
theorem sgE_lt (x : Nat) (c m : List UInt8) : sgE x c m < 1152921504606845789 := chalN_lt _ _ _ _
theorem sgS_lt (x : Nat) (c m : List UInt8) : sgS x c m < 1152921504606845789 := Nat.mod_lt _ (by decide)
/-- what a right signature stands for -/
theorem sg_elem (x : Nat) (c m : List UInt8) : elemN (pubN x : Nat) (sgE x c m : Nat) (sgS x c m : Nat) = 4 ^ nonceN x c m % gP := by
 unfold elemN
 rw [Int.toNat_natCast, Int.toNat_natCast, Int.toNat_natCast]
 exact element_is x (nonceN x c m) (sgE x c m) (Nat.le_of_lt (sgE_lt x c m))
theorem ver_sig {x : Nat} (h1 : 1 ≤ x) (h2 : x < 1152921504606845789) (c m c2 m2 : List UInt8) :
 VerOk (pubN x : Nat) (sgE x c m : Nat) (sgS x c m : Nat) c2 m2 ↔ chalN (4 ^ nonceN x c m % gP : Nat) (pubN x : Nat) c2 m2 = sgE x c m := by
 have hE := sgE_lt x c m
 have hS := sgS_lt x c m
 unfold VerOk
 rw [sg_elem]
 constructor
 ·
  intro h
  have := h.2.2.2.2
  omega
 ·
  intro h
  refine ⟨pub_ne h1 h2, pub_in x, ⟨by omega, by omega⟩, ⟨by omega, by omega⟩, by omega⟩
theorem ver_same {x : Nat} (h1 : 1 ≤ x) (h2 : x < 1152921504606845789) (c m : List UInt8) :
 VerOk (pubN x : Nat) (sgE x c m : Nat) (sgS x c m : Nat) c m := (ver_sig h1 h2 c m c m).2 rfl
/- known answers -/
end Go.Proofs.YtjbjpkhibcnenaaGreatDoor
