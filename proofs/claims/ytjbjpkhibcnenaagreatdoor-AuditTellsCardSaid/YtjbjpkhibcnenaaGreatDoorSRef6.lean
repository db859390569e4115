/- bourneref05: Of, Right, Key, Sign, Ranges, Verify. -/
import Derived.Outline
import Derived.Test.YtjbjpkhibcnenaaGreatDoorSRef5
import Derived.Test.YtjbjpkhibcnenaaGreatDoorSLaw
namespace Go.Proofs.YtjbjpkhibcnenaaGreatDoor
set_option maxRecDepth 100000
set_option maxHeartbeats 4000000
open Go.RowKit
theorem rof_any (x : Nat) (w : World) (h1 : 1 ≤ x) (h2 : x < 1152921504606845789) :
 Calls Tryz.prog 89 #[.int .i64 x] w fun e w' => e = .returned (.agg #[.int .i64 x, .int .i64 (pubN x : Nat)]) ∧ Below w.heap.size w w' := by
 have HZ := Lib.hid (heap_alloc_new w (.cells #[.int .i64 0, .int .i64 0] 73))
 have HB := Lib.hid ((Below.refl w.heap.size w).alloc (Nat.le_refl _) (.cells #[.int .i64 0, .int .i64 0] 73))
 obtain ⟨z, hz⟩ : ∃ z, z = pubN x := ⟨_, rfl⟩
 have HE : Hid (resN 4 gP ^ ((x : Int)).toNat % gP = z) := Lib.hid (by rw [hz, Int.toNat_natCast]; rfl)
 rw [← hz]
 clear hz
 go_enter Tryz.func89, Tryz.ntmps89
 go_wp2_with fail
 refine (rexp_any 4 x _ (by decide) ⟨by omega, by omega⟩).mono ?_
 rintro e w1 ⟨rfl, rfl⟩
 rw [HE.out]
 go_wp2_with fail
 refine bodyPost_ret (v := .agg #[.int .i64 x, .int .i64 z]) (results_cell_row rfl _ _ _ 73 _ (0, 0) _ rfl (heap_alloc_new _ _) undKey rfl infoKey) rfl ⟨rfl, ?_⟩
 exact (Below.refl _ _).alloc (Nat.le_refl _) _
theorem c2_step {w cur w' : World} {k0 : Nat} {A0 : Obj} {v0 v1 : Value} (h : cur.heap[k0]? = some A0 ∧ cur.cell? ⟨k0, 0, none⟩ = some v0 ∧ cur.cell? ⟨k0, 1, none⟩ = some v1 ∧ Below w.heap.size w cur) (hb : Below cur.heap.size cur w') : w'.heap[k0]? = some A0 ∧ w'.cell? ⟨k0, 0, none⟩ = some v0 ∧ w'.cell? ⟨k0, 1, none⟩ = some v1 ∧ Below w.heap.size w w' := by
 obtain ⟨a0, c0, c1, d⟩ := h
 exact ⟨blk_below a0 hb (blk_lt a0), (hb.cell (p := ⟨_, 0, none⟩) (blk_lt a0)).trans c0, (hb.cell (p := ⟨_, 1, none⟩) (blk_lt a0)).trans c1, d.trans (hb.mono d.size)⟩
theorem c2_stepN {w cur : World} {k0 : Nat} {A0 : Obj} {v0 v1 : Value} (h : cur.heap[k0]? = some A0 ∧ cur.cell? ⟨k0, 0, none⟩ = some v0 ∧ cur.cell? ⟨k0, 1, none⟩ = some v1 ∧ Below w.heap.size w cur) (n : Nat) : (cur.drewN n).heap[k0]? = some A0 ∧ (cur.drewN n).cell? ⟨k0, 0, none⟩ = some v0 ∧ (cur.drewN n).cell? ⟨k0, 1, none⟩ = some v1 ∧ Below w.heap.size w (cur.drewN n) := by
 obtain ⟨a0, c0, c1, d⟩ := h
 exact ⟨a0, c0, c1, below_drewN d⟩
theorem c2_stepU {w cur : World} {k0 : Nat} {A0 : Obj} {v0 v1 : Value} {n : Nat} (h : (cur.drewN n).heap[k0]? = some A0 ∧ (cur.drewN n).cell? ⟨k0, 0, none⟩ = some v0 ∧ (cur.drewN n).cell? ⟨k0, 1, none⟩ = some v1 ∧ Below w.heap.size w (cur.drewN n)) : cur.heap[k0]? = some A0 ∧ cur.cell? ⟨k0, 0, none⟩ = some v0 ∧ cur.cell? ⟨k0, 1, none⟩ = some v1 ∧ Below w.heap.size w cur := by
 obtain ⟨a0, c0, c1, d⟩ := h
 exact ⟨a0, c0, c1, ⟨d.os, d.tape, d.output, d.size, d.block⟩⟩
theorem rkey_any (c : ByteArray) (w : World) (hc : c.size ≤ 2000) :
 Calls Tryz.prog 61 #[.string c] w fun e w' => e = .returned (.agg #[.int .i64 (keyN c.data.toList : Nat), .int .i64 (pubN (keyN c.data.toList) : Nat)]) ∧ Below w.heap.size w w' := by
 have hbA := (Below.refl w.heap.size w).alloc (Nat.le_refl _) (.cells #[.int .i64 0, .int .i64 0] 73)
 have HK0 := Lib.hid (heap_alloc_new w (.cells #[.int .i64 0, .int .i64 0] 73))
 have HBA := Lib.hid hbA
 obtain ⟨y, hy⟩ : ∃ y, y = keyN c.data.toList := ⟨_, rfl⟩
 have hyb := keyN_bd c.data.toList
 rw [← hy] at hyb ⊢
 have HY := Lib.hid hy
 obtain ⟨t1, ht1⟩ : ∃ t : ByteArray, t = ⟨(textL (ByteArray.mk #[107, 101, 121]).data.toList).toArray⟩ := ⟨_, rfl⟩
 obtain ⟨t2, ht2⟩ : ∃ t : ByteArray, t = ⟨(textL c.data.toList).toArray⟩ := ⟨_, rfl⟩
 have l1 : t1.size ≤ 8 := by
  have h := textL_len keyB
  have h2 : t1.data.toList.length ≤ 8 := by rw [ht1]; show (textL keyB).length ≤ 8; have b1 : keyB.length = 3 := rfl; omega
  exact h2
 have l2 : t2.size ≤ 4002 := by
  have h := textL_len c.data.toList
  have b4 : c.data.toList.length ≤ 2000 := hc
  have h2 : t2.data.toList.length ≤ 4002 := by rw [ht2]; show (textL c.data.toList).length ≤ 4002; omega
  exact h2
 have HT1 := Lib.hid ht1
 have HT2 := Lib.hid ht2
 have HC := Lib.hid hc
 have HF : Hid ((t1 ++ t2).data.toList = keyL c.data.toList) := Lib.hid (by
  rw [cat_bytes, ht1, ht2]
  simp [keyL, keyB])
 have HLn : Hid ((t1 ++ t2).size ≤ 12000) := Lib.hid (by rw [ByteArray.size_append]; omega)
 have n1 : ¬ 9223372036854775807 < t1.size + t2.size := by omega
 obtain ⟨z, hz⟩ : ∃ z, z = shortL (keyL c.data.toList) := ⟨_, rfl⟩
 have HZ := Lib.hid hz
 have HE : Hid (y = 1 + z % (gQ - 1)) := Lib.hid (by rw [hy]; unfold keyN; rw [hz])
 have hzb : z < 1152921504606846976 := by rw [hz]; exact shortL_lt _
 obtain ⟨v, hv⟩ : ∃ v, v = z % (gQ - 1) := ⟨_, rfl⟩
 have FV : (z : Int) % 1152921504606845788 = (v : Int) := by rw [hv]; exact (Int.natCast_emod z (gQ - 1)).symm
 have hyv : y = 1 + v := by rw [hv]; exact HE.out
 have F1 : 1 + (v : Int) = (y : Int) := by omega
 have hvb : v < 1152921504606845788 := by omega
 have hyb1 := hyb.1
 have hyb2 := hyb.2
 clear hbA hy ht1 ht2 hc hz hv hyv hyb l1 l2
 go_enter Tryz.func61, Tryz.ntmps61
 go_upto_region 1 with fail
 generalize w.alloc (.cells #[.int .i64 0, .int .i64 0] 73) = w0 at *
 have hkl := blk_lt HK0.out
 go_wp2_with fail
 refine (rtext_any ⟨#[107, 101, 121]⟩ _ (by decide)).mono ?_
 rintro e w1 ⟨rfl, hb⟩
 rw [← HT1.out]
 have HB1 := Lib.hid hb
 clear hb
 go_wp2_with fail
 refine (rtext_any c _ (by have := HC.out; omega)).mono ?_
 rintro e w2 ⟨rfl, hb⟩
 rw [← HT2.out]
 have HB2 := Lib.hid (HB1.out.trans (hb.mono HB1.out.size))
 clear hb
 go_wp2_with fail
 refine (rshort_any (t1 ++ t2) _ HLn.out).mono ?_
 rintro e w7 ⟨rfl, hb⟩
 rw [HF.out, ← HZ.out]
 have HB7 := Lib.hid (HB2.out.trans (hb.mono HB2.out.size))
 clear hb
 go_wp2_with fail
 refine (rof_any y _ hyb1 hyb2).mono ?_
 rintro e w8 ⟨rfl, hb⟩
 have HB8 := Lib.hid (HB7.out.trans (hb.mono HB7.out.size))
 have HK8 := Lib.hid (blk_below HK0.out HB8.out hkl)
 have HBW := Lib.hid (HBA.out.trans (HB8.out.mono HBA.out.size))
 clear hb
 obtain ⟨u, hu⟩ : ∃ u, u = pubN y := ⟨_, rfl⟩
 rw [← hu]
 have HU := Lib.hid hu
 clear hu
 obtain ⟨k0, k1⟩ : w8.cell? ⟨w.heap.size, 0, none⟩ = some (.int .i64 0) ∧ w8.cell? ⟨w.heap.size, 1, none⟩ = some (.int .i64 0) := ⟨(cell_of_row _ _ _ _ _ _ HK8.out).trans rfl, (cell_of_row _ _ _ _ _ _ HK8.out).trans rfl⟩
 have f0 : ∀ j, w8.frozen? ⟨w.heap.size, j, none⟩ = false := fun j => frozen_of_row _ _ _ _ _ HK8.out
 go_wp2_with fail
 refine bodyPost_ret (v := .agg #[.int .i64 y, .int .i64 u]) (results_cell_row rfl _ _ _ 73 _ (0, 0) _ rfl (two_set HK8.out) undKey rfl infoKey) rfl ⟨by rw [← HU.out], ?_⟩
 exact (HBW.out.setCell (Nat.le_refl _) _).setCell (Nat.le_refl _) _
def RangeOk (p E S : Int) : Prop := p ≠ 1 ∧ InG p ∧ (0 ≤ E ∧ E < 1152921504606845789) ∧ (0 ≤ S ∧ S < 1152921504606845789)
instance (p E S : Int) : Decidable (RangeOk p E S) := by
 unfold RangeOk
 infer_instance
theorem rranges_any (p E S : Int) (w : World) (hp : I64 p) :
 Calls Tryz.prog 125 #[.int .i64 p, .agg #[.int .i64 E, .int .i64 S]] w fun e w' => e = .returned (.bool (decide (RangeOk p E S))) ∧ Below w.heap.size w w' := by
 have HZ := Lib.hid (heap_alloc_new w (.cells #[.int .i64 E, .int .i64 S] 36))
 have HB := Lib.hid ((Below.refl w.heap.size w).alloc (Nat.le_refl _) (.cells #[.int .i64 E, .int .i64 S] 36))
 by_cases h1 : InG p
 ·
  have HC : Hid (∀ w0, Calls Tryz.prog 146 #[.int .i64 p] w0 fun e w' => e = .returned (.bool true) ∧ w' = w0) := Lib.hid (fun w0 => by
   obtain ⟨b, hb, h⟩ := rin_any p w0 hp
   rw [hb.2 h1] at h
   exact h)
  by_cases h2 : p = 1
  ·
   rw [decide_eq_false (fun h : RangeOk p E S => h.1 h2)]
   have t1 : (p == 1) = true := by rw [beq_iff_eq]; exact h2
   have t1' : (p != 1) = false := by rw [bne_eq_false_iff_eq]; exact h2
   clear h1 h2 hp
   go_enter Tryz.func125, Tryz.ntmps125
   go_upto_region 1 with fail
   generalize w.alloc (.cells #[.int .i64 E, .int .i64 S] 36) = w2 at *
   have c0 : w2.cell? ⟨w.heap.size, 0, none⟩ = some (.int .i64 E) := (cell_of_row _ _ _ _ _ _ HZ.out).trans rfl
   have c1 : w2.cell? ⟨w.heap.size, 1, none⟩ = some (.int .i64 S) := (cell_of_row _ _ _ _ _ _ HZ.out).trans rfl
   go_wp2_with fail
   refine (HC.out _).mono ?_
   rintro e w3 ⟨rfl, rfl⟩
   go_wp2_with fail
   go_ret
   exact ⟨rfl, HB.out⟩
  ·
   have t1 : (p == 1) = false := by rw [beq_eq_false_iff_ne]; exact h2
   have t1' : (p != 1) = true := by rw [bne_iff_ne]; exact h2
   by_cases h3 : 0 ≤ E
   ·
    have t2 : decide (0 ≤ E) = true := decide_eq_true h3
    by_cases h4 : E < 1152921504606845789
    ·
     have t3 : decide (E < 1152921504606845789) = true := decide_eq_true h4
     by_cases h5 : 0 ≤ S
     ·
      have t4 : decide (0 ≤ S) = true := decide_eq_true h5
      by_cases h6 : S < 1152921504606845789
      ·
       have t5 : decide (S < 1152921504606845789) = true := decide_eq_true h6
       rw [decide_eq_true (show RangeOk p E S from ⟨h2, h1, ⟨h3, h4⟩, ⟨h5, h6⟩⟩)]
       clear h1 h2 h3 h4 h5 h6 hp
       go_enter Tryz.func125, Tryz.ntmps125
       go_upto_region 1 with fail
       generalize w.alloc (.cells #[.int .i64 E, .int .i64 S] 36) = w2 at *
       have c0 : w2.cell? ⟨w.heap.size, 0, none⟩ = some (.int .i64 E) := (cell_of_row _ _ _ _ _ _ HZ.out).trans rfl
       have c1 : w2.cell? ⟨w.heap.size, 1, none⟩ = some (.int .i64 S) := (cell_of_row _ _ _ _ _ _ HZ.out).trans rfl
       go_wp2_with fail
       refine (HC.out _).mono ?_
       rintro e w3 ⟨rfl, rfl⟩
       go_wp2_with fail
       go_ret
       exact ⟨rfl, HB.out⟩
      ·
       have t5 : decide (S < 1152921504606845789) = false := decide_eq_false h6
       rw [decide_eq_false (fun h : RangeOk p E S => h6 h.2.2.2.2)]
       clear h1 h2 h3 h4 h5 h6 hp
       go_enter Tryz.func125, Tryz.ntmps125
       go_upto_region 1 with fail
       generalize w.alloc (.cells #[.int .i64 E, .int .i64 S] 36) = w2 at *
       have c0 : w2.cell? ⟨w.heap.size, 0, none⟩ = some (.int .i64 E) := (cell_of_row _ _ _ _ _ _ HZ.out).trans rfl
       have c1 : w2.cell? ⟨w.heap.size, 1, none⟩ = some (.int .i64 S) := (cell_of_row _ _ _ _ _ _ HZ.out).trans rfl
       go_wp2_with fail
       refine (HC.out _).mono ?_
       rintro e w3 ⟨rfl, rfl⟩
       go_wp2_with fail
       go_ret
       exact ⟨rfl, HB.out⟩
     ·
      have t4 : decide (0 ≤ S) = false := decide_eq_false h5
      rw [decide_eq_false (fun h : RangeOk p E S => h5 h.2.2.2.1)]
      clear h1 h2 h3 h4 h5 hp
      go_enter Tryz.func125, Tryz.ntmps125
      go_upto_region 1 with fail
      generalize w.alloc (.cells #[.int .i64 E, .int .i64 S] 36) = w2 at *
      have c0 : w2.cell? ⟨w.heap.size, 0, none⟩ = some (.int .i64 E) := (cell_of_row _ _ _ _ _ _ HZ.out).trans rfl
      have c1 : w2.cell? ⟨w.heap.size, 1, none⟩ = some (.int .i64 S) := (cell_of_row _ _ _ _ _ _ HZ.out).trans rfl
      go_wp2_with fail
      refine (HC.out _).mono ?_
      rintro e w3 ⟨rfl, rfl⟩
      go_wp2_with fail
      go_ret
      exact ⟨rfl, HB.out⟩
    ·
     have t3 : decide (E < 1152921504606845789) = false := decide_eq_false h4
     rw [decide_eq_false (fun h : RangeOk p E S => h4 h.2.2.1.2)]
     clear h1 h2 h3 h4 hp
     go_enter Tryz.func125, Tryz.ntmps125
     go_upto_region 1 with fail
     generalize w.alloc (.cells #[.int .i64 E, .int .i64 S] 36) = w2 at *
     have c0 : w2.cell? ⟨w.heap.size, 0, none⟩ = some (.int .i64 E) := (cell_of_row _ _ _ _ _ _ HZ.out).trans rfl
     have c1 : w2.cell? ⟨w.heap.size, 1, none⟩ = some (.int .i64 S) := (cell_of_row _ _ _ _ _ _ HZ.out).trans rfl
     go_wp2_with fail
     refine (HC.out _).mono ?_
     rintro e w3 ⟨rfl, rfl⟩
     go_wp2_with fail
     go_ret
     exact ⟨rfl, HB.out⟩
   ·
    have t2 : decide (0 ≤ E) = false := decide_eq_false h3
    rw [decide_eq_false (fun h : RangeOk p E S => h3 h.2.2.1.1)]
    clear h1 h2 h3 hp
    go_enter Tryz.func125, Tryz.ntmps125
    go_upto_region 1 with fail
    generalize w.alloc (.cells #[.int .i64 E, .int .i64 S] 36) = w2 at *
    have c0 : w2.cell? ⟨w.heap.size, 0, none⟩ = some (.int .i64 E) := (cell_of_row _ _ _ _ _ _ HZ.out).trans rfl
    have c1 : w2.cell? ⟨w.heap.size, 1, none⟩ = some (.int .i64 S) := (cell_of_row _ _ _ _ _ _ HZ.out).trans rfl
    go_wp2_with fail
    refine (HC.out _).mono ?_
    rintro e w3 ⟨rfl, rfl⟩
    go_wp2_with fail
    go_ret
    exact ⟨rfl, HB.out⟩
 ·
  have HC : Hid (∀ w0, Calls Tryz.prog 146 #[.int .i64 p] w0 fun e w' => e = .returned (.bool false) ∧ w' = w0) := Lib.hid (fun w0 => by
   obtain ⟨b, hb, h⟩ := rin_any p w0 hp
   have e : b = false := by
    cases b with
    | false => rfl
    | true => exact absurd (hb.1 rfl) h1
   rw [e] at h
   exact h)
  rw [decide_eq_false (fun h : RangeOk p E S => h1 h.2.1)]
  clear h1 hp
  go_enter Tryz.func125, Tryz.ntmps125
  go_upto_region 1 with fail
  generalize w.alloc (.cells #[.int .i64 E, .int .i64 S] 36) = w2 at *
  have c0 : w2.cell? ⟨w.heap.size, 0, none⟩ = some (.int .i64 E) := (cell_of_row _ _ _ _ _ _ HZ.out).trans rfl
  have c1 : w2.cell? ⟨w.heap.size, 1, none⟩ = some (.int .i64 S) := (cell_of_row _ _ _ _ _ _ HZ.out).trans rfl
  go_wp2_with fail
  refine (HC.out _).mono ?_
  rintro e w3 ⟨rfl, rfl⟩
  go_wp2_with fail
  go_ret
  exact ⟨rfl, HB.out⟩
theorem rverify_any (p E S : Int) (c m : ByteArray) (w : World) (hp : I64 p) (hc : c.size ≤ 2000) (hm : m.size ≤ 2000) :
 Calls Tryz.prog 95 #[.int .i64 p, .string c, .string m, .agg #[.int .i64 E, .int .i64 S]] w fun e w' => e = .returned (.bool (decide (VerOk p E S c.data.toList m.data.toList))) ∧ Below w.heap.size w w' := by
 have HZ := Lib.hid (heap_alloc_new w (.cells #[.int .i64 E, .int .i64 S] 36))
 have HB := Lib.hid ((Below.refl w.heap.size w).alloc (Nat.le_refl _) (.cells #[.int .i64 E, .int .i64 S] 36))
 have HRg : Hid (∀ w0, Calls Tryz.prog 125 #[.int .i64 p, .agg #[.int .i64 E, .int .i64 S]] w0 fun e w' => e = .returned (.bool (decide (RangeOk p E S))) ∧ Below w0.heap.size w0 w') := Lib.hid (fun w0 => rranges_any p E S w0 hp)
 by_cases h : RangeOk p E S
 ·
  rw [decide_eq_true h] at HRg
  obtain ⟨r, hr⟩ : ∃ r, r = elemN p E S := ⟨_, rfl⟩
  have hrl : r < 2305843009213691579 := by rw [hr]; exact lt_p _
  obtain ⟨y, hy⟩ : ∃ y, y = chalN (r : Nat) p c.data.toList m.data.toList := ⟨_, rfl⟩
  have hd : decide (VerOk p E S c.data.toList m.data.toList) = ((y : Int) == E) := by
   rw [Bool.eq_iff_iff, decide_eq_true_iff, beq_iff_eq, hy, hr]
   exact ⟨fun g => g.2.2.2.2, fun g => ⟨h.1, h.2.1, h.2.2.1, h.2.2.2, g⟩⟩
  rw [hd]
  have HE : Hid (∀ w0, Calls Tryz.prog 127 #[.int .i64 p, .agg #[.int .i64 E, .int .i64 S]] w0 fun e w' => e = .returned (.int .i64 (r : Nat)) ∧ Below w0.heap.size w0 w') := Lib.hid (fun w0 => by rw [hr]; exact relem_any p E S w0 h.2.1 h.2.2.1 h.2.2.2)
  have HC : Hid (∀ w0, Calls Tryz.prog 126 #[.int .i64 (r : Nat), .int .i64 p, .string c, .string m] w0 fun e w' => e = .returned (.int .i64 (y : Nat)) ∧ Below w0.heap.size w0 w') := Lib.hid (fun w0 => by rw [hy]; exact rchal_any r p c m w0 ⟨by omega, by omega⟩ hp hc hm)
  clear hy hr hrl hd h hp hc hm
  go_enter Tryz.func95, Tryz.ntmps95
  go_upto_region 1 with fail
  have hzl := blk_lt HZ.out
  generalize w.alloc (.cells #[.int .i64 E, .int .i64 S] 36) = w1 at *
  have c0 : w1.cell? ⟨w.heap.size, 0, none⟩ = some (.int .i64 E) := (cell_of_row _ _ _ _ _ _ HZ.out).trans rfl
  have c1 : w1.cell? ⟨w.heap.size, 1, none⟩ = some (.int .i64 S) := (cell_of_row _ _ _ _ _ _ HZ.out).trans rfl
  go_wp2_with fail
  refine (HRg.out _).mono ?_
  rintro e w2 ⟨rfl, hb⟩
  have HZ2 := Lib.hid (blk_below HZ.out hb hzl)
  have HB2 := Lib.hid (HB.out.trans (hb.mono HB.out.size))
  clear hb c0 c1 HZ HB hzl
  go_upto_region 2 with fail
  have HS0 : Hid (w2.heap[w.heap.size]? = some (.cells #[.int .i64 E, .int .i64 S] 36) ∧ w2.cell? ⟨w.heap.size, 0, none⟩ = some (.int .i64 E) ∧ w2.cell? ⟨w.heap.size, 1, none⟩ = some (.int .i64 S) ∧ Below w.heap.size w w2) := Lib.hid ⟨HZ2.out, (cell_of_row _ _ _ _ _ _ HZ2.out).trans rfl, (cell_of_row _ _ _ _ _ _ HZ2.out).trans rfl, HB2.out⟩
  clear HZ2 HB2
  go_region_held3 (fun w' => w'.heap[w.heap.size]? = some (.cells #[.int .i64 E, .int .i64 S] 36) ∧ w'.cell? ⟨w.heap.size, 0, none⟩ = some (.int .i64 E) ∧ w'.cell? ⟨w.heap.size, 1, none⟩ = some (.int .i64 S) ∧ Below w.heap.size w w') (first | assumption | exact HS0.out | exact c2_step (by assumption) hb | exact c2_stepN (by assumption) _ | exact c2_stepU (by assumption) | exact c2_stepN (c2_stepU (by assumption)) _) ((first | (go_at_call 127; refine (HE.out _).mono ?_; rintro e w' ⟨rfl, hb⟩) | (go_at_call 126; refine (HC.out _).mono ?_; rintro e w' ⟨rfl, hb⟩)))
  rename World => w3
  rename _ ∧ _ => hFin
  have HBf := Lib.hid hFin.2.2.2
  go_wp2_with fail
  go_ret
  exact ⟨rfl, HBf.out⟩
 ·
  rw [decide_eq_false h] at HRg
  rw [decide_eq_false (fun g : VerOk p E S c.data.toList m.data.toList => h ⟨g.1, g.2.1, g.2.2.1, g.2.2.2.1⟩)]
  clear h hp hc hm
  go_enter Tryz.func95, Tryz.ntmps95
  go_upto_region 1 with fail
  generalize w.alloc (.cells #[.int .i64 E, .int .i64 S] 36) = w1 at *
  have c0 : w1.cell? ⟨w.heap.size, 0, none⟩ = some (.int .i64 E) := (cell_of_row _ _ _ _ _ _ HZ.out).trans rfl
  have c1 : w1.cell? ⟨w.heap.size, 1, none⟩ = some (.int .i64 S) := (cell_of_row _ _ _ _ _ _ HZ.out).trans rfl
  go_wp2_with fail
  refine (HRg.out _).mono ?_
  rintro e w2 ⟨rfl, hb⟩
  have HB2 := Lib.hid (HB.out.trans (hb.mono HB.out.size))
  clear hb c0 c1
  go_upto_region 2 with fail
  go_quiet (fail)
  go_wp2_with fail
  go_ret
  exact ⟨rfl, below_drewN HB2.out⟩
end Go.Proofs.YtjbjpkhibcnenaaGreatDoor

