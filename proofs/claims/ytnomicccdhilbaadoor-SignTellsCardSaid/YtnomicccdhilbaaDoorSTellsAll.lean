/- bournelaw05.SignTells returns true for every input that the statement speaks of, and leaves its arguments as they were. -/
import Derived.Test.YtnomicccdhilbaaDoorSRef5
import Derived.Test.YtnomicccdhilbaaDoorSLaw
import Derived.Outline
import Derived.Test.YtnomicccdhilbaaDoorSSmall
import Derived.Test.YtnomicccdhilbaaDoorSArg
import Derived.Test.YtnomicccdhilbaaDoorGArgs
import Derived.Test.YtnomicccdhilbaaDoorGGlob
import Derived.Test.YtnomicccdhilbaaDoorGLaid
import Derived.Test.YtnomicccdhilbaaDoorCards
import Derived.Test.YtnomicccdhilbaaDoorTie
import Derived.Deep.DeepHandedRow
import Derived.SizedLaws
/- bourneref05: Of, Right, Key, Sign, Ranges, Verify. -/
namespace Go.Proofs.YtnomicccdhilbaaDoor
open Go.RowKit
set_option maxRecDepth 100000 in
set_option maxHeartbeats 2000000 in
theorem rof_any (x : Nat) (w : World) (h1 : 1 ≤ x) (h2 : x < 1152921504606845789) :
    Calls Tryd.prog 13 #[.int .i64 x] w fun e w' => e = .returned (.agg #[.int .i64 x, .int .i64 (pubN x : Nat)]) ∧ Below w.heap.size w w' := by
  have HZ := Lib.hid (heap_alloc_new w (.cells #[.int .i64 0, .int .i64 0] 23))
  have HB := Lib.hid ((Below.refl w.heap.size w).alloc (Nat.le_refl _) (.cells #[.int .i64 0, .int .i64 0] 23))
  obtain ⟨z, hz⟩ : ∃ z, z = pubN x := ⟨_, rfl⟩
  have HE : Hid (resN 4 gP ^ ((x : Int)).toNat % gP = z) := Lib.hid (by rw [hz, Int.toNat_natCast]; rfl)
  rw [← hz]
  clear hz
  go_enter Tryd.func13, Tryd.ntmps13
  go_wp2_with fail
  refine (rexp_any 4 x _ (by decide) ⟨by omega, by omega⟩).mono ?_
  rintro e w1 ⟨rfl, rfl⟩
  rw [HE.out]
  go_wp2_with fail
  refine bodyPost_ret (v := .agg #[.int .i64 x, .int .i64 z]) (results_cell_row rfl _ _ _ 23 _ (0, 0) _ rfl (heap_alloc_new _ _) undKey rfl infoKey) rfl ⟨rfl, ?_⟩
  exact (Below.refl _ _).alloc (Nat.le_refl _) _
set_option maxRecDepth 100000 in
set_option maxHeartbeats 2000000 in
theorem rof_none (x : Int) (w : World) (h : x < 1 ∨ 1152921504606845789 ≤ x) :
    Calls Tryd.prog 13 #[.int .i64 x] w fun e w' => e = .returned (.agg #[.int .i64 0, .int .i64 0]) ∧ Below w.heap.size w w' := by
  have HZ := Lib.hid (heap_alloc_new w (.cells #[.int .i64 0, .int .i64 0] 23))
  have HB := Lib.hid ((Below.refl w.heap.size w).alloc (Nat.le_refl _) (.cells #[.int .i64 0, .int .i64 0] 23))
  by_cases h1 : x < 1
  · clear h
    go_enter Tryd.func13, Tryd.ntmps13
    go_wp2_with fail
    refine bodyPost_ret (v := .agg #[.int .i64 0, .int .i64 0]) (results_cell_row rfl _ _ _ 23 _ (0, 0) _ rfl HZ.out undKey rfl infoKey) rfl ⟨rfl, HB.out⟩
  · have h2 : 1152921504606845789 ≤ x := by omega
    clear h
    go_enter Tryd.func13, Tryd.ntmps13
    go_wp2_with fail
    refine bodyPost_ret (v := .agg #[.int .i64 0, .int .i64 0]) (results_cell_row rfl _ _ _ 23 _ (0, 0) _ rfl HZ.out undKey rfl infoKey) rfl ⟨rfl, HB.out⟩
/-- what the reference's Of answers -/
def ofR (x : Int) : Int × Int := if 1 ≤ x ∧ x < 1152921504606845789 then (x, (pubN x.toNat : Nat)) else (0, 0)
theorem rof_all (x : Int) (w : World) :
    Calls Tryd.prog 13 #[.int .i64 x] w fun e w' => e = .returned (.agg #[.int .i64 (ofR x).1, .int .i64 (ofR x).2]) ∧ Below w.heap.size w w' := by
  unfold ofR
  by_cases h : 1 ≤ x ∧ x < 1152921504606845789
  · rw [if_pos h]
    obtain ⟨n, rfl⟩ : ∃ n : Nat, x = n := ⟨x.toNat, by omega⟩
    exact rof_any n w (by omega) (by omega)
  · rw [if_neg h]
    exact rof_none x w (by omega)
theorem of_all (x : Int) (w : World) :
    Calls Tryd.prog 12 #[.int .i64 x] w fun e w' => e = .returned (.agg #[.int .i64 (ofR x).1, .int .i64 (ofR x).2]) ∧ Below w.heap.size w w' := by
  unfold ofR
  by_cases h : 1 ≤ x ∧ x < 1152921504606845789
  · rw [if_pos h]
    obtain ⟨n, rfl⟩ : ∃ n : Nat, x = n := ⟨x.toNat, by omega⟩
    exact of_any n w (by omega) (by omega)
  · rw [if_neg h]
    exact of_none x w (by omega)
theorem right_of (x p : Int) (h : 1 ≤ x) : (x = (ofR x).1 ∧ p = (ofR x).2) ↔ RightK x p := by
  unfold ofR RightK
  by_cases g : x < 1152921504606845789
  · rw [if_pos ⟨h, g⟩]
    exact ⟨fun a => ⟨h, g, a.2⟩, fun a => ⟨rfl, a.2.2⟩⟩
  · rw [if_neg (fun a => g a.2)]
    constructor
    · rintro ⟨a, b⟩
      have a2 : x = 0 := a
      omega
    · exact fun a => absurd a.2.1 g
theorem c2_step {w cur w' : World} {k0 : Nat} {A0 : Obj} {v0 v1 : Value} (h : cur.heap[k0]? = some A0 ∧ cur.cell? ⟨k0, 0, none⟩ = some v0 ∧ cur.cell? ⟨k0, 1, none⟩ = some v1 ∧ Below w.heap.size w cur) (hb : Below cur.heap.size cur w') : w'.heap[k0]? = some A0 ∧ w'.cell? ⟨k0, 0, none⟩ = some v0 ∧ w'.cell? ⟨k0, 1, none⟩ = some v1 ∧ Below w.heap.size w w' := by
  obtain ⟨a0, c0, c1, d⟩ := h
  exact ⟨blk_below a0 hb (blk_lt a0), (hb.cell (p := ⟨_, 0, none⟩) (blk_lt a0)).trans c0, (hb.cell (p := ⟨_, 1, none⟩) (blk_lt a0)).trans c1, d.trans (hb.mono d.size)⟩
theorem c2_stepN {w cur : World} {k0 : Nat} {A0 : Obj} {v0 v1 : Value} (h : cur.heap[k0]? = some A0 ∧ cur.cell? ⟨k0, 0, none⟩ = some v0 ∧ cur.cell? ⟨k0, 1, none⟩ = some v1 ∧ Below w.heap.size w cur) (n : Nat) : (cur.drewN n).heap[k0]? = some A0 ∧ (cur.drewN n).cell? ⟨k0, 0, none⟩ = some v0 ∧ (cur.drewN n).cell? ⟨k0, 1, none⟩ = some v1 ∧ Below w.heap.size w (cur.drewN n) := by
  obtain ⟨a0, c0, c1, d⟩ := h
  exact ⟨a0, c0, c1, below_drewN d⟩
theorem c2_stepU {w cur : World} {k0 : Nat} {A0 : Obj} {v0 v1 : Value} {n : Nat} (h : (cur.drewN n).heap[k0]? = some A0 ∧ (cur.drewN n).cell? ⟨k0, 0, none⟩ = some v0 ∧ (cur.drewN n).cell? ⟨k0, 1, none⟩ = some v1 ∧ Below w.heap.size w (cur.drewN n)) : cur.heap[k0]? = some A0 ∧ cur.cell? ⟨k0, 0, none⟩ = some v0 ∧ cur.cell? ⟨k0, 1, none⟩ = some v1 ∧ Below w.heap.size w cur := by
  obtain ⟨a0, c0, c1, d⟩ := h
  exact ⟨a0, c0, c1, ⟨d.os, d.tape, d.output, d.size, d.block⟩⟩
set_option maxRecDepth 100000 in
set_option maxHeartbeats 2000000 in
theorem rrightK_any (x p : Int) (w : World) :
    Calls Tryd.prog 15 #[.agg #[.int .i64 x, .int .i64 p]] w fun e w' => e = .returned (.bool (decide (RightK x p))) ∧ Below w.heap.size w w' := by
  have HZ := Lib.hid (heap_alloc_new w (.cells #[.int .i64 x, .int .i64 p] 23))
  have HB := Lib.hid ((Below.refl w.heap.size w).alloc (Nat.le_refl _) (.cells #[.int .i64 x, .int .i64 p] 23))
  by_cases h1 : 1 ≤ x
  · have t1 : decide (1 ≤ x) = true := decide_eq_true h1
    have HR := Lib.hid (right_of x p h1)
    obtain ⟨a, ha⟩ : ∃ a, a = (ofR x).1 := ⟨_, rfl⟩
    obtain ⟨b, hb⟩ : ∃ b, b = (ofR x).2 := ⟨_, rfl⟩
    have HO : Hid (∀ w0, Calls Tryd.prog 13 #[.int .i64 x] w0 fun e w' => e = .returned (.agg #[.int .i64 a, .int .i64 b]) ∧ Below w0.heap.size w0 w') := Lib.hid (fun w0 => by rw [ha, hb]; exact rof_all x w0)
    rw [← ha, ← hb] at HR
    have hd : decide (RightK x p) = decide (x = a ∧ p = b) := by
      rw [Bool.eq_iff_iff, decide_eq_true_iff, decide_eq_true_iff]
      exact HR.out.symm
    rw [hd]
    have heq := eqK x p a b
    generalize decide (x = a ∧ p = b) = d at *
    clear h1 ha hb hd HR
    go_enter Tryd.func15, Tryd.ntmps15
    go_upto_region 1 with fail
    generalize w.alloc (.cells #[.int .i64 x, .int .i64 p] 23) = w2 at *
    have HS0 : Hid (w2.heap[w.heap.size]? = some (.cells #[.int .i64 x, .int .i64 p] 23) ∧ w2.cell? ⟨w.heap.size, 0, none⟩ = some (.int .i64 x) ∧ w2.cell? ⟨w.heap.size, 1, none⟩ = some (.int .i64 p) ∧ Below w.heap.size w w2) := Lib.hid ⟨HZ.out, (cell_of_row _ _ _ _ _ _ HZ.out).trans rfl, (cell_of_row _ _ _ _ _ _ HZ.out).trans rfl, HB.out⟩
    go_region_held3 (fun w' => w'.heap[w.heap.size]? = some (.cells #[.int .i64 x, .int .i64 p] 23) ∧ w'.cell? ⟨w.heap.size, 0, none⟩ = some (.int .i64 x) ∧ w'.cell? ⟨w.heap.size, 1, none⟩ = some (.int .i64 p) ∧ Below w.heap.size w w') (first | assumption | exact HS0.out | exact c2_step (by assumption) hb | exact c2_stepN (by assumption) _ | exact c2_stepU (by assumption) | exact c2_stepN (c2_stepU (by assumption)) _) ((first | (go_at_call 13; refine (HO.out _).mono ?_; rintro e w' ⟨rfl, hb⟩)))
    rename World => w3
    rename _ ∧ _ => hFin
    have HBf := Lib.hid hFin.2.2.2
    go_wp2_with fail
    go_ret
    exact ⟨rfl, HBf.out⟩
  · have t1 : decide (1 ≤ x) = false := decide_eq_false h1
    rw [decide_eq_false (fun h : RightK x p => h1 h.1)]
    clear h1
    go_enter Tryd.func15, Tryd.ntmps15
    go_upto_region 1 with fail
    generalize w.alloc (.cells #[.int .i64 x, .int .i64 p] 23) = w2 at *
    have c0 : w2.cell? ⟨w.heap.size, 0, none⟩ = some (.int .i64 x) := (cell_of_row _ _ _ _ _ _ HZ.out).trans rfl
    go_quiet (fail)
    go_wp2_with fail
    go_ret
    exact ⟨rfl, below_drewN HB.out⟩
set_option maxRecDepth 100000 in
set_option maxHeartbeats 4000000 in
theorem rkey_any (c : ByteArray) (w : World) (hc : c.size ≤ 2000) :
    Calls Tryd.prog 11 #[.string c] w fun e w' => e = .returned (.agg #[.int .i64 (keyN c.data.toList : Nat), .int .i64 (pubN (keyN c.data.toList) : Nat)]) ∧ Below w.heap.size w w' := by
  have hbA := (Below.refl w.heap.size w).alloc (Nat.le_refl _) (.cells #[.int .i64 0, .int .i64 0] 23)
  have HK0 := Lib.hid (heap_alloc_new w (.cells #[.int .i64 0, .int .i64 0] 23))
  have HBA := Lib.hid hbA
  obtain ⟨y, hy⟩ : ∃ y, y = keyN c.data.toList := ⟨_, rfl⟩
  have hyb := keyN_bd c.data.toList
  rw [← hy] at hyb ⊢
  have HY := Lib.hid hy
  obtain ⟨t1, ht1⟩ : ∃ t : ByteArray, t = ⟨(textL (ByteArray.mk #[107, 101, 121]).data.toList).toArray⟩ := ⟨_, rfl⟩
  obtain ⟨t2, ht2⟩ : ∃ t : ByteArray, t = ⟨(textL c.data.toList).toArray⟩ := ⟨_, rfl⟩
  have l1 : t1.size ≤ 8 := by
    have h := textL_len keyB
    have h2 : t1.data.toList.length ≤ 8 := by rw [ht1]; show (textL keyB).length ≤ 8; have b1 : keyB.length = 3 := rfl; omega
    exact h2
  have l2 : t2.size ≤ 4002 := by
    have h := textL_len c.data.toList
    have b4 : c.data.toList.length ≤ 2000 := hc
    have h2 : t2.data.toList.length ≤ 4002 := by rw [ht2]; show (textL c.data.toList).length ≤ 4002; omega
    exact h2
  have HT1 := Lib.hid ht1
  have HT2 := Lib.hid ht2
  have HC := Lib.hid hc
  have HF : Hid ((t1 ++ t2).data.toList = keyL c.data.toList) := Lib.hid (by
    rw [cat_bytes, ht1, ht2]
    simp [keyL, keyB])
  have HLn : Hid ((t1 ++ t2).size ≤ 12000) := Lib.hid (by rw [ByteArray.size_append]; omega)
  have n1 : ¬ 9223372036854775807 < t1.size + t2.size := by omega
  obtain ⟨z, hz⟩ : ∃ z, z = shortL (keyL c.data.toList) := ⟨_, rfl⟩
  have HZ := Lib.hid hz
  have HE : Hid (y = 1 + z % (gQ - 1)) := Lib.hid (by rw [hy]; unfold keyN; rw [hz])
  have hzb : z < 1152921504606846976 := by rw [hz]; exact shortL_lt _
  obtain ⟨v, hv⟩ : ∃ v, v = z % (gQ - 1) := ⟨_, rfl⟩
  have FV : (z : Int) % 1152921504606845788 = (v : Int) := by rw [hv]; exact (Int.natCast_emod z (gQ - 1)).symm
  have hyv : y = 1 + v := by rw [hv]; exact HE.out
  have F1 : 1 + (v : Int) = (y : Int) := by omega
  have hvb : v < 1152921504606845788 := by omega
  have hyb1 := hyb.1
  have hyb2 := hyb.2
  clear hbA hy ht1 ht2 hc hz hv hyv hyb l1 l2
  go_enter Tryd.func11, Tryd.ntmps11
  go_upto_region 1 with fail
  generalize w.alloc (.cells #[.int .i64 0, .int .i64 0] 23) = w0 at *
  have hkl := blk_lt HK0.out
  go_wp2_with fail
  refine (rtext_any ⟨#[107, 101, 121]⟩ _ (by decide)).mono ?_
  rintro e w1 ⟨rfl, hb⟩
  rw [← HT1.out]
  have HB1 := Lib.hid hb
  clear hb
  go_wp2_with fail
  refine (rtext_any c _ (by have := HC.out; omega)).mono ?_
  rintro e w2 ⟨rfl, hb⟩
  rw [← HT2.out]
  have HB2 := Lib.hid (HB1.out.trans (hb.mono HB1.out.size))
  clear hb
  go_wp2_with fail
  refine (rshort_any (t1 ++ t2) _ HLn.out).mono ?_
  rintro e w7 ⟨rfl, hb⟩
  rw [HF.out, ← HZ.out]
  have HB7 := Lib.hid (HB2.out.trans (hb.mono HB2.out.size))
  clear hb
  go_wp2_with fail
  refine (rof_any y _ hyb1 hyb2).mono ?_
  rintro e w8 ⟨rfl, hb⟩
  have HB8 := Lib.hid (HB7.out.trans (hb.mono HB7.out.size))
  have HK8 := Lib.hid (blk_below HK0.out HB8.out hkl)
  have HBW := Lib.hid (HBA.out.trans (HB8.out.mono HBA.out.size))
  clear hb
  obtain ⟨u, hu⟩ : ∃ u, u = pubN y := ⟨_, rfl⟩
  rw [← hu]
  have HU := Lib.hid hu
  clear hu
  obtain ⟨k0, k1⟩ : w8.cell? ⟨w.heap.size, 0, none⟩ = some (.int .i64 0) ∧ w8.cell? ⟨w.heap.size, 1, none⟩ = some (.int .i64 0) := ⟨(cell_of_row _ _ _ _ _ _ HK8.out).trans rfl, (cell_of_row _ _ _ _ _ _ HK8.out).trans rfl⟩
  have f0 : ∀ j, w8.frozen? ⟨w.heap.size, j, none⟩ = false := fun j => frozen_of_row _ _ _ _ _ HK8.out
  go_wp2_with fail
  refine bodyPost_ret (v := .agg #[.int .i64 y, .int .i64 u]) (results_cell_row rfl _ _ _ 23 _ (0, 0) _ rfl (two_set HK8.out) undKey rfl infoKey) rfl ⟨by rw [← HU.out], ?_⟩
  exact (HBW.out.setCell (Nat.le_refl _) _).setCell (Nat.le_refl _) _
def RangeOk (p E S : Int) : Prop := p ≠ 1 ∧ InG p ∧ (0 ≤ E ∧ E < 1152921504606845789) ∧ (0 ≤ S ∧ S < 1152921504606845789)
instance (p E S : Int) : Decidable (RangeOk p E S) := by
  unfold RangeOk
  infer_instance
set_option maxRecDepth 100000 in
set_option maxHeartbeats 2000000 in
theorem rranges_any (p E S : Int) (w : World) (hp : I64 p) :
    Calls Tryd.prog 38 #[.int .i64 p, .agg #[.int .i64 E, .int .i64 S]] w fun e w' => e = .returned (.bool (decide (RangeOk p E S))) ∧ Below w.heap.size w w' := by
  have HZ := Lib.hid (heap_alloc_new w (.cells #[.int .i64 E, .int .i64 S] 25))
  have HB := Lib.hid ((Below.refl w.heap.size w).alloc (Nat.le_refl _) (.cells #[.int .i64 E, .int .i64 S] 25))
  by_cases h1 : InG p
  · have HC : Hid (∀ w0, Calls Tryd.prog 50 #[.int .i64 p] w0 fun e w' => e = .returned (.bool true) ∧ w' = w0) := Lib.hid (fun w0 => by
      obtain ⟨b, hb, h⟩ := rin_any p w0 hp
      rw [hb.2 h1] at h
      exact h)
    by_cases h2 : p = 1
    · rw [decide_eq_false (fun h : RangeOk p E S => h.1 h2)]
      have t1 : (p == 1) = true := by rw [beq_iff_eq]; exact h2
      have t1' : (p != 1) = false := by rw [bne_eq_false_iff_eq]; exact h2
      clear h1 h2 hp
      go_enter Tryd.func38, Tryd.ntmps38
      go_upto_region 1 with fail
      generalize w.alloc (.cells #[.int .i64 E, .int .i64 S] 25) = w2 at *
      have c0 : w2.cell? ⟨w.heap.size, 0, none⟩ = some (.int .i64 E) := (cell_of_row _ _ _ _ _ _ HZ.out).trans rfl
      have c1 : w2.cell? ⟨w.heap.size, 1, none⟩ = some (.int .i64 S) := (cell_of_row _ _ _ _ _ _ HZ.out).trans rfl
      go_wp2_with fail
      refine (HC.out _).mono ?_
      rintro e w3 ⟨rfl, rfl⟩
      go_wp2_with fail
      go_ret
      exact ⟨rfl, HB.out⟩
    · have t1 : (p == 1) = false := by rw [beq_eq_false_iff_ne]; exact h2
      have t1' : (p != 1) = true := by rw [bne_iff_ne]; exact h2
      by_cases h3 : 0 ≤ E
      · have t2 : decide (0 ≤ E) = true := decide_eq_true h3
        by_cases h4 : E < 1152921504606845789
        · have t3 : decide (E < 1152921504606845789) = true := decide_eq_true h4
          by_cases h5 : 0 ≤ S
          · have t4 : decide (0 ≤ S) = true := decide_eq_true h5
            by_cases h6 : S < 1152921504606845789
            · have t5 : decide (S < 1152921504606845789) = true := decide_eq_true h6
              rw [decide_eq_true (show RangeOk p E S from ⟨h2, h1, ⟨h3, h4⟩, ⟨h5, h6⟩⟩)]
              clear h1 h2 h3 h4 h5 h6 hp
              go_enter Tryd.func38, Tryd.ntmps38
              go_upto_region 1 with fail
              generalize w.alloc (.cells #[.int .i64 E, .int .i64 S] 25) = w2 at *
              have c0 : w2.cell? ⟨w.heap.size, 0, none⟩ = some (.int .i64 E) := (cell_of_row _ _ _ _ _ _ HZ.out).trans rfl
              have c1 : w2.cell? ⟨w.heap.size, 1, none⟩ = some (.int .i64 S) := (cell_of_row _ _ _ _ _ _ HZ.out).trans rfl
              go_wp2_with fail
              refine (HC.out _).mono ?_
              rintro e w3 ⟨rfl, rfl⟩
              go_wp2_with fail
              go_ret
              exact ⟨rfl, HB.out⟩
            · have t5 : decide (S < 1152921504606845789) = false := decide_eq_false h6
              rw [decide_eq_false (fun h : RangeOk p E S => h6 h.2.2.2.2)]
              clear h1 h2 h3 h4 h5 h6 hp
              go_enter Tryd.func38, Tryd.ntmps38
              go_upto_region 1 with fail
              generalize w.alloc (.cells #[.int .i64 E, .int .i64 S] 25) = w2 at *
              have c0 : w2.cell? ⟨w.heap.size, 0, none⟩ = some (.int .i64 E) := (cell_of_row _ _ _ _ _ _ HZ.out).trans rfl
              have c1 : w2.cell? ⟨w.heap.size, 1, none⟩ = some (.int .i64 S) := (cell_of_row _ _ _ _ _ _ HZ.out).trans rfl
              go_wp2_with fail
              refine (HC.out _).mono ?_
              rintro e w3 ⟨rfl, rfl⟩
              go_wp2_with fail
              go_ret
              exact ⟨rfl, HB.out⟩
          · have t4 : decide (0 ≤ S) = false := decide_eq_false h5
            rw [decide_eq_false (fun h : RangeOk p E S => h5 h.2.2.2.1)]
            clear h1 h2 h3 h4 h5 hp
            go_enter Tryd.func38, Tryd.ntmps38
            go_upto_region 1 with fail
            generalize w.alloc (.cells #[.int .i64 E, .int .i64 S] 25) = w2 at *
            have c0 : w2.cell? ⟨w.heap.size, 0, none⟩ = some (.int .i64 E) := (cell_of_row _ _ _ _ _ _ HZ.out).trans rfl
            have c1 : w2.cell? ⟨w.heap.size, 1, none⟩ = some (.int .i64 S) := (cell_of_row _ _ _ _ _ _ HZ.out).trans rfl
            go_wp2_with fail
            refine (HC.out _).mono ?_
            rintro e w3 ⟨rfl, rfl⟩
            go_wp2_with fail
            go_ret
            exact ⟨rfl, HB.out⟩
        · have t3 : decide (E < 1152921504606845789) = false := decide_eq_false h4
          rw [decide_eq_false (fun h : RangeOk p E S => h4 h.2.2.1.2)]
          clear h1 h2 h3 h4 hp
          go_enter Tryd.func38, Tryd.ntmps38
          go_upto_region 1 with fail
          generalize w.alloc (.cells #[.int .i64 E, .int .i64 S] 25) = w2 at *
          have c0 : w2.cell? ⟨w.heap.size, 0, none⟩ = some (.int .i64 E) := (cell_of_row _ _ _ _ _ _ HZ.out).trans rfl
          have c1 : w2.cell? ⟨w.heap.size, 1, none⟩ = some (.int .i64 S) := (cell_of_row _ _ _ _ _ _ HZ.out).trans rfl
          go_wp2_with fail
          refine (HC.out _).mono ?_
          rintro e w3 ⟨rfl, rfl⟩
          go_wp2_with fail
          go_ret
          exact ⟨rfl, HB.out⟩
      · have t2 : decide (0 ≤ E) = false := decide_eq_false h3
        rw [decide_eq_false (fun h : RangeOk p E S => h3 h.2.2.1.1)]
        clear h1 h2 h3 hp
        go_enter Tryd.func38, Tryd.ntmps38
        go_upto_region 1 with fail
        generalize w.alloc (.cells #[.int .i64 E, .int .i64 S] 25) = w2 at *
        have c0 : w2.cell? ⟨w.heap.size, 0, none⟩ = some (.int .i64 E) := (cell_of_row _ _ _ _ _ _ HZ.out).trans rfl
        have c1 : w2.cell? ⟨w.heap.size, 1, none⟩ = some (.int .i64 S) := (cell_of_row _ _ _ _ _ _ HZ.out).trans rfl
        go_wp2_with fail
        refine (HC.out _).mono ?_
        rintro e w3 ⟨rfl, rfl⟩
        go_wp2_with fail
        go_ret
        exact ⟨rfl, HB.out⟩
  · have HC : Hid (∀ w0, Calls Tryd.prog 50 #[.int .i64 p] w0 fun e w' => e = .returned (.bool false) ∧ w' = w0) := Lib.hid (fun w0 => by
      obtain ⟨b, hb, h⟩ := rin_any p w0 hp
      have e : b = false := by
        cases b with
        | false => rfl
        | true => exact absurd (hb.1 rfl) h1
      rw [e] at h
      exact h)
    rw [decide_eq_false (fun h : RangeOk p E S => h1 h.2.1)]
    clear h1 hp
    go_enter Tryd.func38, Tryd.ntmps38
    go_upto_region 1 with fail
    generalize w.alloc (.cells #[.int .i64 E, .int .i64 S] 25) = w2 at *
    have c0 : w2.cell? ⟨w.heap.size, 0, none⟩ = some (.int .i64 E) := (cell_of_row _ _ _ _ _ _ HZ.out).trans rfl
    have c1 : w2.cell? ⟨w.heap.size, 1, none⟩ = some (.int .i64 S) := (cell_of_row _ _ _ _ _ _ HZ.out).trans rfl
    go_wp2_with fail
    refine (HC.out _).mono ?_
    rintro e w3 ⟨rfl, rfl⟩
    go_wp2_with fail
    go_ret
    exact ⟨rfl, HB.out⟩
set_option maxRecDepth 100000 in
set_option maxHeartbeats 4000000 in
theorem rverify_any (p E S : Int) (c m : ByteArray) (w : World) (hp : I64 p) (hc : c.size ≤ 2000) (hm : m.size ≤ 2000) :
    Calls Tryd.prog 19 #[.int .i64 p, .string c, .string m, .agg #[.int .i64 E, .int .i64 S]] w fun e w' => e = .returned (.bool (decide (VerOk p E S c.data.toList m.data.toList))) ∧ Below w.heap.size w w' := by
  have HZ := Lib.hid (heap_alloc_new w (.cells #[.int .i64 E, .int .i64 S] 25))
  have HB := Lib.hid ((Below.refl w.heap.size w).alloc (Nat.le_refl _) (.cells #[.int .i64 E, .int .i64 S] 25))
  have HRg : Hid (∀ w0, Calls Tryd.prog 38 #[.int .i64 p, .agg #[.int .i64 E, .int .i64 S]] w0 fun e w' => e = .returned (.bool (decide (RangeOk p E S))) ∧ Below w0.heap.size w0 w') := Lib.hid (fun w0 => rranges_any p E S w0 hp)
  by_cases h : RangeOk p E S
  · rw [decide_eq_true h] at HRg
    obtain ⟨r, hr⟩ : ∃ r, r = elemN p E S := ⟨_, rfl⟩
    have hrl : r < 2305843009213691579 := by rw [hr]; exact lt_p _
    obtain ⟨y, hy⟩ : ∃ y, y = chalN (r : Nat) p c.data.toList m.data.toList := ⟨_, rfl⟩
    have hd : decide (VerOk p E S c.data.toList m.data.toList) = ((y : Int) == E) := by
      rw [Bool.eq_iff_iff, decide_eq_true_iff, beq_iff_eq, hy, hr]
      exact ⟨fun g => g.2.2.2.2, fun g => ⟨h.1, h.2.1, h.2.2.1, h.2.2.2, g⟩⟩
    rw [hd]
    have HE : Hid (∀ w0, Calls Tryd.prog 20 #[.int .i64 p, .agg #[.int .i64 E, .int .i64 S]] w0 fun e w' => e = .returned (.int .i64 (r : Nat)) ∧ Below w0.heap.size w0 w') := Lib.hid (fun w0 => by rw [hr]; exact relem_any p E S w0 h.2.1 h.2.2.1 h.2.2.2)
    have HC : Hid (∀ w0, Calls Tryd.prog 21 #[.int .i64 (r : Nat), .int .i64 p, .string c, .string m] w0 fun e w' => e = .returned (.int .i64 (y : Nat)) ∧ Below w0.heap.size w0 w') := Lib.hid (fun w0 => by rw [hy]; exact rchal_any r p c m w0 ⟨by omega, by omega⟩ hp hc hm)
    clear hy hr hrl hd h hp hc hm
    go_enter Tryd.func19, Tryd.ntmps19
    go_upto_region 1 with fail
    have hzl := blk_lt HZ.out
    generalize w.alloc (.cells #[.int .i64 E, .int .i64 S] 25) = w1 at *
    have c0 : w1.cell? ⟨w.heap.size, 0, none⟩ = some (.int .i64 E) := (cell_of_row _ _ _ _ _ _ HZ.out).trans rfl
    have c1 : w1.cell? ⟨w.heap.size, 1, none⟩ = some (.int .i64 S) := (cell_of_row _ _ _ _ _ _ HZ.out).trans rfl
    go_wp2_with fail
    refine (HRg.out _).mono ?_
    rintro e w2 ⟨rfl, hb⟩
    have HZ2 := Lib.hid (blk_below HZ.out hb hzl)
    have HB2 := Lib.hid (HB.out.trans (hb.mono HB.out.size))
    clear hb c0 c1 HZ HB hzl
    go_upto_region 2 with fail
    have HS0 : Hid (w2.heap[w.heap.size]? = some (.cells #[.int .i64 E, .int .i64 S] 25) ∧ w2.cell? ⟨w.heap.size, 0, none⟩ = some (.int .i64 E) ∧ w2.cell? ⟨w.heap.size, 1, none⟩ = some (.int .i64 S) ∧ Below w.heap.size w w2) := Lib.hid ⟨HZ2.out, (cell_of_row _ _ _ _ _ _ HZ2.out).trans rfl, (cell_of_row _ _ _ _ _ _ HZ2.out).trans rfl, HB2.out⟩
    clear HZ2 HB2
    go_region_held3 (fun w' => w'.heap[w.heap.size]? = some (.cells #[.int .i64 E, .int .i64 S] 25) ∧ w'.cell? ⟨w.heap.size, 0, none⟩ = some (.int .i64 E) ∧ w'.cell? ⟨w.heap.size, 1, none⟩ = some (.int .i64 S) ∧ Below w.heap.size w w') (first | assumption | exact HS0.out | exact c2_step (by assumption) hb | exact c2_stepN (by assumption) _ | exact c2_stepU (by assumption) | exact c2_stepN (c2_stepU (by assumption)) _) ((first | (go_at_call 20; refine (HE.out _).mono ?_; rintro e w' ⟨rfl, hb⟩) | (go_at_call 21; refine (HC.out _).mono ?_; rintro e w' ⟨rfl, hb⟩)))
    rename World => w3
    rename _ ∧ _ => hFin
    have HBf := Lib.hid hFin.2.2.2
    go_wp2_with fail
    go_ret
    exact ⟨rfl, HBf.out⟩
  · rw [decide_eq_false h] at HRg
    rw [decide_eq_false (fun g : VerOk p E S c.data.toList m.data.toList => h ⟨g.1, g.2.1, g.2.2.1, g.2.2.2.1⟩)]
    clear h hp hc hm
    go_enter Tryd.func19, Tryd.ntmps19
    go_upto_region 1 with fail
    generalize w.alloc (.cells #[.int .i64 E, .int .i64 S] 25) = w1 at *
    have c0 : w1.cell? ⟨w.heap.size, 0, none⟩ = some (.int .i64 E) := (cell_of_row _ _ _ _ _ _ HZ.out).trans rfl
    have c1 : w1.cell? ⟨w.heap.size, 1, none⟩ = some (.int .i64 S) := (cell_of_row _ _ _ _ _ _ HZ.out).trans rfl
    go_wp2_with fail
    refine (HRg.out _).mono ?_
    rintro e w2 ⟨rfl, hb⟩
    have HB2 := Lib.hid (HB.out.trans (hb.mono HB.out.size))
    clear hb c0 c1
    go_upto_region 2 with fail
    go_quiet (fail)
    go_wp2_with fail
    go_ret
    exact ⟨rfl, below_drewN HB2.out⟩
end Go.Proofs.YtnomicccdhilbaaDoor
/- bourneref05.Sign. -/
namespace Go.Proofs.YtnomicccdhilbaaDoor
open Go.RowKit
theorem sg0_step {w cur w' : World} {k : Nat} {A B : Obj} {v : Value} (h : (cur.heap[k]? = some A ∧ cur.heap[k + 1]? = some B) ∧ cur.cell? ⟨k, 0, none⟩ = some v ∧ Below w.heap.size w cur) (hb : Below cur.heap.size cur w') :
    (w'.heap[k]? = some A ∧ w'.heap[k + 1]? = some B) ∧ w'.cell? ⟨k, 0, none⟩ = some v ∧ Below w.heap.size w w' := by
  obtain ⟨⟨a, b⟩, c, d⟩ := h
  exact ⟨⟨blk_below a hb (blk_lt a), blk_below b hb (blk_lt b)⟩, (hb.cell (p := ⟨k, 0, none⟩) (blk_lt a)).trans c, d.trans (hb.mono d.size)⟩
theorem sg0_stepN {w cur : World} {k : Nat} {A B : Obj} {v : Value} (h : (cur.heap[k]? = some A ∧ cur.heap[k + 1]? = some B) ∧ cur.cell? ⟨k, 0, none⟩ = some v ∧ Below w.heap.size w cur) (j : Nat) :
    ((cur.drewN j).heap[k]? = some A ∧ (cur.drewN j).heap[k + 1]? = some B) ∧ (cur.drewN j).cell? ⟨k, 0, none⟩ = some v ∧ Below w.heap.size w (cur.drewN j) := by
  obtain ⟨⟨a, b⟩, c, d⟩ := h
  exact ⟨⟨a, b⟩, c, below_drewN d⟩
theorem sg0_stepU {w cur : World} {k j : Nat} {A B : Obj} {v : Value} (h : ((cur.drewN j).heap[k]? = some A ∧ (cur.drewN j).heap[k + 1]? = some B) ∧ (cur.drewN j).cell? ⟨k, 0, none⟩ = some v ∧ Below w.heap.size w (cur.drewN j)) :
    (cur.heap[k]? = some A ∧ cur.heap[k + 1]? = some B) ∧ cur.cell? ⟨k, 0, none⟩ = some v ∧ Below w.heap.size w cur := by
  obtain ⟨⟨a, b⟩, c, d⟩ := h
  exact ⟨⟨a, b⟩, c, ⟨d.os, d.tape, d.output, d.size, d.block⟩⟩
set_option maxRecDepth 100000 in
set_option maxHeartbeats 4000000 in
theorem rsign_yes (x : Nat) (c m : ByteArray) (w : World) (h1 : 1 ≤ x) (h2 : x < 1152921504606845789) (hc : c.size ≤ 2000) (hm : m.size ≤ 2000) :
    Calls Tryd.prog 17 #[.agg #[.int .i64 x, .int .i64 (pubN x : Nat)], .string c, .string m] w fun e w' => e = .returned (.agg #[.int .i64 (sgE x c.data.toList m.data.toList : Nat), .int .i64 (sgS x c.data.toList m.data.toList : Nat)]) ∧ Below w.heap.size w w' := by
  obtain ⟨p, hp⟩ : ∃ p : Nat, p = pubN x := ⟨_, rfl⟩
  obtain ⟨n, hn⟩ : ∃ n, n = nonceN x c.data.toList m.data.toList := ⟨_, rfl⟩
  obtain ⟨r, hr⟩ : ∃ r, r = 4 ^ n % gP := ⟨_, rfl⟩
  obtain ⟨y, hy⟩ : ∃ y, y = sgE x c.data.toList m.data.toList := ⟨_, rfl⟩
  obtain ⟨s, hs⟩ : ∃ s, s = sgS x c.data.toList m.data.toList := ⟨_, rfl⟩
  have hnb := nonceN_bd x c.data.toList m.data.toList
  rw [← hn] at hnb
  have hyb : y < 1152921504606845789 := by rw [hy]; exact chalN_lt _ _ _ _
  have hpl : p < 2305843009213691579 := by rw [hp]; exact lt_p _
  have hrl : r < 2305843009213691579 := by rw [hr]; exact lt_p _
  have HR : Hid (∀ w0, Calls Tryd.prog 15 #[.agg #[.int .i64 x, .int .i64 p]] w0 fun e w' => e = .returned (.bool true) ∧ Below w0.heap.size w0 w') := Lib.hid (fun w0 => by
    have h := rrightK_any x p w0
    rw [decide_eq_true (show RightK x p from ⟨by omega, by omega, by rw [hp, Int.toNat_natCast]⟩)] at h
    exact h)
  obtain ⟨T, hT⟩ : ∃ T : ByteArray → ByteArray, T = fun s => ⟨(textL s.data.toList).toArray⟩ := ⟨_, rfl⟩
  obtain ⟨t2, ht2⟩ : ∃ t : ByteArray, t = ⟨(numL x).toArray⟩ := ⟨_, rfl⟩
  have HTx : Hid (∀ s w0, s.size ≤ 2000 → Calls Tryd.prog 29 #[.string s] w0 fun e w' => e = .returned (.string (T s)) ∧ Below w0.heap.size w0 w') := Lib.hid (fun s w0 h => by rw [hT]; exact rtext_any s w0 (by omega))
  have HNm : Hid (∀ w0, Calls Tryd.prog 35 #[.int .i64 x] w0 fun e w' => e = .returned (.string t2) ∧ Below w0.heap.size w0 w') := Lib.hid (fun w0 => by rw [ht2]; exact rnum_any x w0 ⟨by omega, by omega⟩)
  have l1 : (T ⟨#[110, 111, 110, 99, 101]⟩).size ≤ 12 := by
    have h := textL_len nonceB
    have h2 : (T ⟨#[110, 111, 110, 99, 101]⟩).data.toList.length ≤ 12 := by rw [hT]; show (textL nonceB).length ≤ 12; have b1 : nonceB.length = 5 := rfl; omega
    exact h2
  have l2 : t2.size ≤ 9 := by
    have h := numL_len (n := (x : Int)) ⟨by omega, by omega⟩
    have h2 : t2.data.toList.length ≤ 9 := by rw [ht2]; exact h
    exact h2
  have l4 : (T c).size ≤ 4002 := by
    have h := textL_len c.data.toList
    have b4 : c.data.toList.length ≤ 2000 := hc
    have h2 : (T c).data.toList.length ≤ 4002 := by rw [hT]; show (textL c.data.toList).length ≤ 4002; omega
    exact h2
  have l5 : (T m).size ≤ 4002 := by
    have h := textL_len m.data.toList
    have b4 : m.data.toList.length ≤ 2000 := hm
    have h2 : (T m).data.toList.length ≤ 4002 := by rw [hT]; show (textL m.data.toList).length ≤ 4002; omega
    exact h2
  obtain ⟨z1, hz1⟩ : ∃ z, z = shortL (nonceL x c.data.toList m.data.toList) := ⟨_, rfl⟩
  have HSo : Hid (∀ w0, Calls Tryd.prog 28 #[.string (T ⟨#[110, 111, 110, 99, 101]⟩ ++ t2 ++ T c ++ T m)] w0 fun e w' => e = .returned (.int .i64 (z1 : Nat)) ∧ Below w0.heap.size w0 w') := Lib.hid (fun w0 => by
    have h := rshort_any (T ⟨#[110, 111, 110, 99, 101]⟩ ++ t2 ++ T c ++ T m) w0 (by rw [ByteArray.size_append, ByteArray.size_append, ByteArray.size_append]; omega)
    rw [cat_bytes, cat_bytes, cat_bytes, hT, ht2] at h
    rw [hz1, hT, ht2]
    have e : textL nonceB ++ numL x ++ textL c.data.toList ++ textL m.data.toList = nonceL x c.data.toList m.data.toList := by simp [nonceL]
    rw [← e]
    exact h)
  have q1 : ¬ 9223372036854775807 < (T ⟨#[110, 111, 110, 99, 101]⟩).size + t2.size := by omega
  have q2 : ¬ 9223372036854775807 < (T ⟨#[110, 111, 110, 99, 101]⟩).size + t2.size + (T c).size := by omega
  have q3 : ¬ 9223372036854775807 < (T ⟨#[110, 111, 110, 99, 101]⟩).size + t2.size + (T c).size + (T m).size := by omega
  have hz1b : z1 < 1152921504606846976 := by rw [hz1]; exact shortL_lt _
  obtain ⟨v1, hv1⟩ : ∃ v, v = z1 % (gQ - 1) := ⟨_, rfl⟩
  have FV1 : (z1 : Int) % 1152921504606845788 = (v1 : Int) := by rw [hv1]; exact (Int.natCast_emod z1 (gQ - 1)).symm
  have hnv : n = 1 + v1 := by rw [hn, hv1, hz1]; rfl
  have FN1 : 1 + (v1 : Int) = (n : Int) := by omega
  have hv1b : v1 < 1152921504606845788 := by omega
  have HCs := Lib.hid hc
  have HMs := Lib.hid hm
  have FW : Hid (IntKind.i64.wrap (1 + (z1 : Int).tmod 1152921504606845788) = (n : Int)) := Lib.hid (by
    rw [Int.tmod_eq_emod_of_nonneg (by omega), FV1, FN1]
    exact IntWalk.i64_in _ (by omega))
  clear FV1 FN1
  have HE : Hid (∀ w0, Calls Tryd.prog 30 #[.int .i64 4, .int .i64 n] w0 fun e w' => e = .returned (.int .i64 (r : Nat)) ∧ w' = w0) := Lib.hid (fun w0 => by
    have h := rexp_any 4 n w0 ⟨by omega, by omega⟩ ⟨by omega, by omega⟩
    rw [res4, Int.toNat_natCast, ← hr] at h
    exact h)
  have HC : Hid (∀ w0, Calls Tryd.prog 21 #[.int .i64 (r : Nat), .int .i64 p, .string c, .string m] w0 fun e w' => e = .returned (.int .i64 (y : Nat)) ∧ Below w0.heap.size w0 w') := Lib.hid (fun w0 => by
    have h := rchal_any r p c m w0 ⟨by omega, by omega⟩ ⟨by omega, by omega⟩ hc hm
    have e : chalN (r : Nat) (p : Nat) c.data.toList m.data.toList = y := by rw [hy, hr, hp, hn]; rfl
    rw [e] at h
    exact h)
  have HQ : Hid (∀ w0, Calls Tryd.prog 37 #[.int .i64 y, .int .i64 x] w0 fun e w' => e = .returned (.int .i64 (mulN y x gQ : Nat)) ∧ w' = w0) := Lib.hid (fun w0 => rmulQ_any y x w0 ⟨by omega, by omega⟩ ⟨by omega, by omega⟩)
  have hzb : mulN (y : Int) (x : Int) gQ < 1152921504606845789 := mulN_lt _ _ (by decide)
  have HA : Hid (∀ w0, Calls Tryd.prog 36 #[.int .i64 n, .int .i64 (mulN y x gQ : Nat)] w0 fun e w' => e = .returned (.int .i64 (s : Nat)) ∧ w' = w0) := Lib.hid (fun w0 => by
    have h := raddQ_any n (mulN y x gQ : Nat) w0 ⟨by omega, by omega⟩ ⟨by omega, by omega⟩
    have e : (n + y * x) % gQ = s := by rw [hs, hy, hn]; rfl
    rw [sum_q (by show n < 1152921504606845789; omega) hyb h2, e] at h
    exact h)
  generalize mulN (y : Int) (x : Int) gQ = z at *
  rw [← hp, ← hy, ← hs]
  have HK0 := Lib.hid (heap_alloc_new w (.cells #[.int .i64 x, .int .i64 p] 23))
  have HB0 := Lib.hid ((Below.refl w.heap.size w).alloc (Nat.le_refl _) (.cells #[.int .i64 x, .int .i64 p] 23))
  clear hT ht2 l1 l2 l4 l5 hz1 hv1 hnv hp hn hr hy hs hnb hyb hpl hrl h1 h2 hc hm  hzb
  go_enter Tryd.func17, Tryd.ntmps17
  go_upto_region 1 with fail
  have hR0 := heap_alloc_new (w.alloc (.cells #[.int .i64 x, .int .i64 p] 23)) (.cells #[.int .i64 0, .int .i64 0] 25)
  have hK1 : ((w.alloc (.cells #[.int .i64 x, .int .i64 p] 23)).alloc (.cells #[.int .i64 0, .int .i64 0] 25)).heap[w.heap.size]? = some (.cells #[.int .i64 x, .int .i64 p] 23) := blk_below HK0.out ((Below.refl _ _).alloc (Nat.le_refl _) _) (blk_lt HK0.out)
  have hs1 : (w.alloc (.cells #[.int .i64 x, .int .i64 p] 23)).heap.size = w.heap.size + 1 := World.size_alloc _ _
  have HB1 := Lib.hid (HB0.out.alloc HB0.out.size (.cells #[.int .i64 0, .int .i64 0] 25))
  rw [hs1] at hR0
  have HR0 := Lib.hid hR0
  have HK1 := Lib.hid hK1
  clear hR0 hK1 hs1 HK0 HB0
  generalize (w.alloc (.cells #[.int .i64 x, .int .i64 p] 23)).alloc (.cells #[.int .i64 0, .int .i64 0] 25) = w2 at *
  obtain ⟨k0, k1⟩ : w2.cell? ⟨w.heap.size, 0, none⟩ = some (.int .i64 x) ∧ w2.cell? ⟨w.heap.size, 1, none⟩ = some (.int .i64 p) := ⟨(cell_of_row _ _ _ _ _ _ HK1.out).trans rfl, (cell_of_row _ _ _ _ _ _ HK1.out).trans rfl⟩
  go_wp2_with fail
  refine (HR.out _).mono ?_
  rintro e w3 ⟨rfl, hb⟩
  have HB3 := Lib.hid (HB1.out.trans (hb.mono HB1.out.size))
  have HK3 := Lib.hid (blk_below HK1.out hb (blk_lt HK1.out))
  have HR3 := Lib.hid (blk_below HR0.out hb (blk_lt HR0.out))
  clear hb k0 k1 HB1 HK1 HR0
  obtain ⟨k0, k1⟩ : w3.cell? ⟨w.heap.size, 0, none⟩ = some (.int .i64 x) ∧ w3.cell? ⟨w.heap.size, 1, none⟩ = some (.int .i64 p) := ⟨(cell_of_row _ _ _ _ _ _ HK3.out).trans rfl, (cell_of_row _ _ _ _ _ _ HK3.out).trans rfl⟩
  go_upto_region 4 with fail
  have HS0 : Hid ((w3.heap[w.heap.size]? = some (.cells #[.int .i64 x, .int .i64 p] 23) ∧ w3.heap[w.heap.size + 1]? = some (.cells #[.int .i64 0, .int .i64 0] 25)) ∧ w3.cell? ⟨w.heap.size, 0, none⟩ = some (.int .i64 x) ∧ Below w.heap.size w w3) := Lib.hid
    ⟨⟨HK3.out, HR3.out⟩, (cell_of_row _ _ _ _ _ _ HK3.out).trans rfl, HB3.out⟩
  clear HK3 HR3 HB3 k0 k1
  go_region_held3 (fun w' => (w'.heap[w.heap.size]? = some (.cells #[.int .i64 x, .int .i64 p] 23) ∧ w'.heap[w.heap.size + 1]? = some (.cells #[.int .i64 0, .int .i64 0] 25)) ∧ w'.cell? ⟨w.heap.size, 0, none⟩ = some (.int .i64 x) ∧ Below w.heap.size w w') (first | assumption | exact HS0.out | exact sg0_step (by assumption) hb | exact sg0_stepN (by assumption) _ | exact sg0_stepU (by assumption) | exact sg0_stepN (sg0_stepU (by assumption)) _) ((first | (go_at_call 29; refine (HTx.out _ _ (by first | exact HCs.out | exact HMs.out | decide)).mono ?_; rintro e w' ⟨rfl, hb⟩) | (go_at_call 35; refine (HNm.out _).mono ?_; rintro e w' ⟨rfl, hb⟩) | (go_at_call 28; refine (HSo.out _).mono ?_; rintro e w' ⟨rfl, hb⟩)))
  rename World => w4
  rename _ ∧ _ => hFin
  obtain ⟨⟨hk4, hr4⟩, -, hbw4⟩ := hFin
  have HK4 := Lib.hid hk4
  have HR4 := Lib.hid hr4
  have HB4 := Lib.hid hbw4
  clear hk4 hr4 hbw4 HS0
  simp only [FW.out]
  go_upto_region 5 with fail
  have HS0 : Hid ((w4.heap[w.heap.size]? = some (.cells #[.int .i64 x, .int .i64 p] 23) ∧ w4.heap[w.heap.size + 1]? = some (.cells #[.int .i64 0, .int .i64 0] 25)) ∧ w4.cell? ⟨w.heap.size, 1, none⟩ = some (.int .i64 p) ∧ Below w.heap.size w w4) := Lib.hid
    ⟨⟨HK4.out, HR4.out⟩, (cell_of_row _ _ _ _ _ _ HK4.out).trans rfl, HB4.out⟩
  clear HK4 HR4 HB4
  go_region_held3 (fun w' => (w'.heap[w.heap.size]? = some (.cells #[.int .i64 x, .int .i64 p] 23) ∧ w'.heap[w.heap.size + 1]? = some (.cells #[.int .i64 0, .int .i64 0] 25)) ∧ w'.cell? ⟨w.heap.size, 1, none⟩ = some (.int .i64 p) ∧ Below w.heap.size w w') (first | assumption | exact HS0.out | exact sg_step (by assumption) hb | exact sg_stepN (by assumption) _) ((first | (go_at_call 30; refine (HE.out _).mono ?_; rintro e w' ⟨rfl, rfl⟩) | (go_at_call 21; refine (HC.out _).mono ?_; rintro e w' ⟨rfl, hb⟩)))
  rename World => w'
  rename _ ∧ _ => hFin
  obtain ⟨⟨hk, hr⟩, -, hbw⟩ := hFin
  have HK5 := Lib.hid hk
  have HR5 := Lib.hid hr
  have HB5 := Lib.hid hbw
  clear hk hr hbw
  have k0 : w'.cell? ⟨w.heap.size, 0, none⟩ = some (.int .i64 x) := (cell_of_row _ _ _ _ _ _ HK5.out).trans rfl
  go_wp2_with fail
  refine (HQ.out _).mono ?_
  rintro e w6 ⟨rfl, rfl⟩
  have HB6 := HB5
  have HR6 := HR5
  go_wp2_with fail
  refine (HA.out _).mono ?_
  rintro e w7 ⟨rfl, rfl⟩
  obtain ⟨r0, r1⟩ : w7.cell? ⟨w.heap.size + 1, 0, none⟩ = some (.int .i64 0) ∧ w7.cell? ⟨w.heap.size + 1, 1, none⟩ = some (.int .i64 0) := ⟨(cell_of_row _ _ _ _ _ _ HR6.out).trans rfl, (cell_of_row _ _ _ _ _ _ HR6.out).trans rfl⟩
  have f0 : ∀ j, w7.frozen? ⟨w.heap.size + 1, j, none⟩ = false := fun j => frozen_of_row _ _ _ _ _ HR6.out
  go_wp2_with fail
  refine bodyPost_ret (v := .agg #[.int .i64 y, .int .i64 s]) (results_cell_row rfl _ _ _ 25 _ (0, 0) _ rfl (two_set HR6.out) undSig rfl infoSig) rfl ⟨rfl, ?_⟩
  exact (HB6.out.setCell (Nat.le_succ _) _).setCell (Nat.le_succ _) _
set_option maxRecDepth 100000 in
set_option maxHeartbeats 4000000 in
theorem rsign_no (x p : Int) (c m : ByteArray) (w : World) (h : ¬ RightK x p) :
    Calls Tryd.prog 17 #[.agg #[.int .i64 x, .int .i64 p], .string c, .string m] w fun e w' => e = .returned (.agg #[.int .i64 0, .int .i64 0]) ∧ Below w.heap.size w w' := by
  have HR : Hid (∀ w0, Calls Tryd.prog 15 #[.agg #[.int .i64 x, .int .i64 p]] w0 fun e w' => e = .returned (.bool false) ∧ Below w0.heap.size w0 w') := Lib.hid (fun w0 => by
    have h2 := rrightK_any x p w0
    rw [decide_eq_false h] at h2
    exact h2)
  have HK0 := Lib.hid (heap_alloc_new w (.cells #[.int .i64 x, .int .i64 p] 23))
  have HB0 := Lib.hid ((Below.refl w.heap.size w).alloc (Nat.le_refl _) (.cells #[.int .i64 x, .int .i64 p] 23))
  clear h
  go_enter Tryd.func17, Tryd.ntmps17
  go_upto_region 1 with fail
  have hR0 := heap_alloc_new (w.alloc (.cells #[.int .i64 x, .int .i64 p] 23)) (.cells #[.int .i64 0, .int .i64 0] 25)
  have hK1 : ((w.alloc (.cells #[.int .i64 x, .int .i64 p] 23)).alloc (.cells #[.int .i64 0, .int .i64 0] 25)).heap[w.heap.size]? = some (.cells #[.int .i64 x, .int .i64 p] 23) := blk_below HK0.out ((Below.refl _ _).alloc (Nat.le_refl _) _) (blk_lt HK0.out)
  have hs1 : (w.alloc (.cells #[.int .i64 x, .int .i64 p] 23)).heap.size = w.heap.size + 1 := World.size_alloc _ _
  have HB1 := Lib.hid (HB0.out.alloc HB0.out.size (.cells #[.int .i64 0, .int .i64 0] 25))
  rw [hs1] at hR0
  have HR0 := Lib.hid hR0
  have HK1 := Lib.hid hK1
  clear hR0 hK1 hs1 HK0 HB0
  generalize (w.alloc (.cells #[.int .i64 x, .int .i64 p] 23)).alloc (.cells #[.int .i64 0, .int .i64 0] 25) = w2 at *
  obtain ⟨k0, k1⟩ : w2.cell? ⟨w.heap.size, 0, none⟩ = some (.int .i64 x) ∧ w2.cell? ⟨w.heap.size, 1, none⟩ = some (.int .i64 p) := ⟨(cell_of_row _ _ _ _ _ _ HK1.out).trans rfl, (cell_of_row _ _ _ _ _ _ HK1.out).trans rfl⟩
  go_wp2_with fail
  refine (HR.out _).mono ?_
  rintro e w3 ⟨rfl, hb⟩
  have HB3 := Lib.hid (HB1.out.trans (hb.mono HB1.out.size))
  have HR6 := Lib.hid (blk_below HR0.out hb (blk_lt HR0.out))
  clear hb k0 k1 HB1 HK1 HR0
  obtain ⟨r0, r1⟩ : w3.cell? ⟨w.heap.size + 1, 0, none⟩ = some (.int .i64 0) ∧ w3.cell? ⟨w.heap.size + 1, 1, none⟩ = some (.int .i64 0) := ⟨(cell_of_row _ _ _ _ _ _ HR6.out).trans rfl, (cell_of_row _ _ _ _ _ _ HR6.out).trans rfl⟩
  have f0 : ∀ j, w3.frozen? ⟨w.heap.size + 1, j, none⟩ = false := fun j => frozen_of_row _ _ _ _ _ HR6.out
  go_wp2_with fail
  refine bodyPost_ret (v := .agg #[.int .i64 0, .int .i64 0]) (results_cell_row rfl _ _ _ 25 _ (0, 0) _ rfl (two_set HR6.out) undSig rfl infoSig) rfl ⟨rfl, ?_⟩
  exact (HB3.out.setCell (Nat.le_succ _) _).setCell (Nat.le_succ _) _
theorem rsign_any (x p : Int) (c m : ByteArray) (w : World) (hc : c.size ≤ 2000) (hm : m.size ≤ 2000) :
    Calls Tryd.prog 17 #[.agg #[.int .i64 x, .int .i64 p], .string c, .string m] w fun e w' => e = .returned (.agg #[.int .i64 (signR x p c.data.toList m.data.toList).1, .int .i64 (signR x p c.data.toList m.data.toList).2]) ∧ Below w.heap.size w w' := by
  unfold signR
  by_cases h : RightK x p
  · rw [if_pos h]
    obtain ⟨n, rfl⟩ : ∃ n : Nat, x = n := ⟨x.toNat, by have := h.1; omega⟩
    have h2 : p = (pubN n : Nat) := h.2.2
    rw [h2]
    exact rsign_yes n c m w (by have := h.1; omega) (by have := h.2.1; omega) hc hm
  · rw [if_neg h]
    exact rsign_no x p c m w h
end Go.Proofs.YtnomicccdhilbaaDoor
/- bournelaw05.SignTells returns true. -/
namespace Go.Proofs.YtnomicccdhilbaaDoor
open Go.RowKit
structure TellFacts (seed c m : ByteArray) (x p pub E S a b o1 o2 g1 g2 : Int) (rb vb : Bool) : Prop where
  key : ∀ w, Glob w → MLen w → Calls Tryd.prog 10 #[.string seed] w fun e w' => e = .returned (.agg #[.int .i64 a, .int .i64 b]) ∧ Below w.heap.size w w'
  rkey : ∀ w, Calls Tryd.prog 11 #[.string seed] w fun e w' => e = .returned (.agg #[.int .i64 a, .int .i64 b]) ∧ Below w.heap.size w w'
  of : ∀ w, Calls Tryd.prog 12 #[.int .i64 x] w fun e w' => e = .returned (.agg #[.int .i64 o1, .int .i64 o2]) ∧ Below w.heap.size w w'
  rof : ∀ w, Calls Tryd.prog 13 #[.int .i64 x] w fun e w' => e = .returned (.agg #[.int .i64 o1, .int .i64 o2]) ∧ Below w.heap.size w w'
  right : ∀ w, Calls Tryd.prog 14 #[.agg #[.int .i64 x, .int .i64 p]] w fun e w' => e = .returned (.bool rb) ∧ Below w.heap.size w w'
  rright : ∀ w, Calls Tryd.prog 15 #[.agg #[.int .i64 x, .int .i64 p]] w fun e w' => e = .returned (.bool rb) ∧ Below w.heap.size w w'
  sign : ∀ w, Glob w → MLen w → Calls Tryd.prog 16 #[.agg #[.int .i64 x, .int .i64 p], .string c, .string m] w fun e w' => e = .returned (.agg #[.int .i64 g1, .int .i64 g2]) ∧ Below w.heap.size w w'
  rsign : ∀ w, Calls Tryd.prog 17 #[.agg #[.int .i64 x, .int .i64 p], .string c, .string m] w fun e w' => e = .returned (.agg #[.int .i64 g1, .int .i64 g2]) ∧ Below w.heap.size w w'
  ver : ∀ w, Glob w → MLen w → Calls Tryd.prog 18 #[.int .i64 pub, .string c, .string m, .agg #[.int .i64 E, .int .i64 S]] w fun e w' => e = .returned (.bool vb) ∧ Below w.heap.size w w'
  rver : ∀ w, Calls Tryd.prog 19 #[.int .i64 pub, .string c, .string m, .agg #[.int .i64 E, .int .i64 S]] w fun e w' => e = .returned (.bool vb) ∧ Below w.heap.size w w'
theorem tellFacts (seed c m : ByteArray) (x p pub E S : Int) (h1 : seed.size ≤ 2000) (h2 : c.size ≤ 2000) (h3 : m.size ≤ 2000) (hp : I64 pub) :
    ∃ a b o1 o2 g1 g2 rb vb, TellFacts seed c m x p pub E S a b o1 o2 g1 g2 rb vb :=
  ⟨_, _, _, _, _, _, _, _, ⟨fun w hg hm => key_any seed w h1 hg hm, fun w => rkey_any seed w h1, fun w => of_all x w, fun w => rof_all x w, fun w => rightK_any x p w, fun w => rrightK_any x p w, fun w hg hm => sign_any x p c m w h2 h3 hg hm, fun w => rsign_any x p c m w h2 h3, fun w hg hm => verify_any pub E S c m w hp h2 h3 hg hm, fun w => rverify_any pub E S c m w hp h2 h3⟩⟩
theorem tell_step {w cur w' : World} {k0 k1 : Nat} {A0 A1 : Obj} {v0 v1 v2 v3 : Value} (h : cur.heap[k0]? = some A0 ∧ cur.heap[k1]? = some A1 ∧ cur.cell? ⟨k0, 0, none⟩ = some v0 ∧ cur.cell? ⟨k0, 1, none⟩ = some v1 ∧ cur.cell? ⟨k1, 0, none⟩ = some v2 ∧ cur.cell? ⟨k1, 1, none⟩ = some v3 ∧ Below w.heap.size w cur) (hb : Below cur.heap.size cur w') : w'.heap[k0]? = some A0 ∧ w'.heap[k1]? = some A1 ∧ w'.cell? ⟨k0, 0, none⟩ = some v0 ∧ w'.cell? ⟨k0, 1, none⟩ = some v1 ∧ w'.cell? ⟨k1, 0, none⟩ = some v2 ∧ w'.cell? ⟨k1, 1, none⟩ = some v3 ∧ Below w.heap.size w w' := by
  obtain ⟨a0, a1, c0, c1, c2, c3, d⟩ := h
  exact ⟨blk_below a0 hb (blk_lt a0), blk_below a1 hb (blk_lt a1), (hb.cell (p := ⟨_, 0, none⟩) (blk_lt a0)).trans c0, (hb.cell (p := ⟨_, 1, none⟩) (blk_lt a0)).trans c1, (hb.cell (p := ⟨_, 0, none⟩) (blk_lt a1)).trans c2, (hb.cell (p := ⟨_, 1, none⟩) (blk_lt a1)).trans c3, d.trans (hb.mono d.size)⟩
theorem tell_stepN {w cur : World} {k0 k1 : Nat} {A0 A1 : Obj} {v0 v1 v2 v3 : Value} (h : cur.heap[k0]? = some A0 ∧ cur.heap[k1]? = some A1 ∧ cur.cell? ⟨k0, 0, none⟩ = some v0 ∧ cur.cell? ⟨k0, 1, none⟩ = some v1 ∧ cur.cell? ⟨k1, 0, none⟩ = some v2 ∧ cur.cell? ⟨k1, 1, none⟩ = some v3 ∧ Below w.heap.size w cur) (n : Nat) : (cur.drewN n).heap[k0]? = some A0 ∧ (cur.drewN n).heap[k1]? = some A1 ∧ (cur.drewN n).cell? ⟨k0, 0, none⟩ = some v0 ∧ (cur.drewN n).cell? ⟨k0, 1, none⟩ = some v1 ∧ (cur.drewN n).cell? ⟨k1, 0, none⟩ = some v2 ∧ (cur.drewN n).cell? ⟨k1, 1, none⟩ = some v3 ∧ Below w.heap.size w (cur.drewN n) := by
  obtain ⟨a0, a1, c0, c1, c2, c3, d⟩ := h
  exact ⟨a0, a1, c0, c1, c2, c3, below_drewN d⟩
theorem tell_stepU {w cur : World} {k0 k1 : Nat} {A0 A1 : Obj} {v0 v1 v2 v3 : Value} {n : Nat} (h : (cur.drewN n).heap[k0]? = some A0 ∧ (cur.drewN n).heap[k1]? = some A1 ∧ (cur.drewN n).cell? ⟨k0, 0, none⟩ = some v0 ∧ (cur.drewN n).cell? ⟨k0, 1, none⟩ = some v1 ∧ (cur.drewN n).cell? ⟨k1, 0, none⟩ = some v2 ∧ (cur.drewN n).cell? ⟨k1, 1, none⟩ = some v3 ∧ Below w.heap.size w (cur.drewN n)) : cur.heap[k0]? = some A0 ∧ cur.heap[k1]? = some A1 ∧ cur.cell? ⟨k0, 0, none⟩ = some v0 ∧ cur.cell? ⟨k0, 1, none⟩ = some v1 ∧ cur.cell? ⟨k1, 0, none⟩ = some v2 ∧ cur.cell? ⟨k1, 1, none⟩ = some v3 ∧ Below w.heap.size w cur := by
  obtain ⟨a0, a1, c0, c1, c2, c3, d⟩ := h
  exact ⟨a0, a1, c0, c1, c2, c3, ⟨d.os, d.tape, d.output, d.size, d.block⟩⟩
set_option maxRecDepth 100000 in
set_option maxHeartbeats 8000000 in
theorem tells_core (seed c m : ByteArray) (x p pub E S : Int) (w : World) (hp : I64 pub) (hg : Glob w) (hml : MLen w) (hs : seed.size + c.size + m.size ≤ 4611686018427387904) :
    Calls Tryd.prog 3 #[.string seed, .string c, .string m, .agg #[.int .i64 x, .int .i64 p], .int .i64 pub, .agg #[.int .i64 E, .int .i64 S]] w fun e w' => e = .returned (.bool true) ∧ Below w.heap.size w w' := by
  have HG := Lib.hid hg
  have HM := Lib.hid hml
  have HSh : Hid (∀ w0, Calls Tryd.prog 9 #[.string seed, .string c, .string m] w0 fun e w' => e = .returned (.bool (decide (seed.size + c.size + m.size ≤ 2000))) ∧ w' = w0) := Lib.hid (fun w0 => shorts_any seed c m w0 hs)
  have HK0 := Lib.hid (heap_alloc_new w (.cells #[.int .i64 x, .int .i64 p] 23))
  have HB0 := Lib.hid ((Below.refl w.heap.size w).alloc (Nat.le_refl _) (.cells #[.int .i64 x, .int .i64 p] 23))
  clear hg hml hs
  by_cases hs : seed.size + c.size + m.size ≤ 2000
  · rw [decide_eq_true hs] at HSh
    obtain ⟨a, b, o1, o2, g1, g2, rb, vb, hF⟩ := tellFacts seed c m x p pub E S (by omega) (by omega) (by omega) hp
    have HF := Lib.hid hF
    clear hF hs hp
    have heq1 := eqK a b a b
    have heq2 := eqK o1 o2 o1 o2
    have heq3 := eqS g1 g2 g1 g2
    rw [decide_eq_true ⟨rfl, rfl⟩] at heq1 heq2 heq3
    have hb1 : (rb != rb) = false := by cases rb <;> rfl
    have hb2 : (vb == vb) = true := by cases vb <;> rfl
    go_enter Tryd.func3, Tryd.ntmps3
    go_upto_region 1 with fail
    have hR0 := heap_alloc_new (w.alloc (.cells #[.int .i64 x, .int .i64 p] 23)) (.cells #[.int .i64 E, .int .i64 S] 25)
    have hK1 : ((w.alloc (.cells #[.int .i64 x, .int .i64 p] 23)).alloc (.cells #[.int .i64 E, .int .i64 S] 25)).heap[w.heap.size]? = some (.cells #[.int .i64 x, .int .i64 p] 23) := blk_below HK0.out ((Below.refl _ _).alloc (Nat.le_refl _) _) (blk_lt HK0.out)
    have hs1 : (w.alloc (.cells #[.int .i64 x, .int .i64 p] 23)).heap.size = w.heap.size + 1 := World.size_alloc _ _
    have HB1 := Lib.hid (HB0.out.alloc HB0.out.size (.cells #[.int .i64 E, .int .i64 S] 25))
    rw [hs1] at hR0
    have Sh1 := Lib.hid hR0
    have Kh1 := Lib.hid hK1
    clear hR0 hK1 hs1 HK0 HB0
    generalize (w.alloc (.cells #[.int .i64 x, .int .i64 p] 23)).alloc (.cells #[.int .i64 E, .int .i64 S] 25) = w1 at *
    go_wp2_with fail
    refine (small_any _ (HG.out.below HB1.out HG.out.size) (HM.out.up HB1.out)).mono ?_
    rintro e w2 ⟨rfl, hb⟩
    have HB2 := Lib.hid (HB1.out.trans (hb.mono HB1.out.size))
    have Kh2 := Lib.hid (blk_below Kh1.out hb (blk_lt Kh1.out))
    have Sh2 := Lib.hid (blk_below Sh1.out hb (blk_lt Sh1.out))
    clear HB1 Kh1 Sh1
    clear hb
    have cK0 : w2.cell? ⟨w.heap.size, 0, none⟩ = some (.int .i64 x) := (cell_of_row _ _ _ _ _ _ Kh2.out).trans rfl
    have cK1 : w2.cell? ⟨w.heap.size, 1, none⟩ = some (.int .i64 p) := (cell_of_row _ _ _ _ _ _ Kh2.out).trans rfl
    have cS0 : w2.cell? ⟨w.heap.size + 1, 0, none⟩ = some (.int .i64 E) := (cell_of_row _ _ _ _ _ _ Sh2.out).trans rfl
    have cS1 : w2.cell? ⟨w.heap.size + 1, 1, none⟩ = some (.int .i64 S) := (cell_of_row _ _ _ _ _ _ Sh2.out).trans rfl
    go_wp2_with fail
    refine (HSh.out _).mono ?_
    rintro e wq ⟨rfl, rfl⟩
    go_upto_region 5 with fail
    clear cK0 cK1 cS0 cS1
    have HS0 : Hid (wq.heap[w.heap.size]? = some (.cells #[.int .i64 x, .int .i64 p] 23) ∧ wq.heap[w.heap.size + 1]? = some (.cells #[.int .i64 E, .int .i64 S] 25) ∧ wq.cell? ⟨w.heap.size, 0, none⟩ = some (.int .i64 x) ∧ wq.cell? ⟨w.heap.size, 1, none⟩ = some (.int .i64 p) ∧ wq.cell? ⟨w.heap.size + 1, 0, none⟩ = some (.int .i64 E) ∧ wq.cell? ⟨w.heap.size + 1, 1, none⟩ = some (.int .i64 S) ∧ Below w.heap.size w wq) := Lib.hid ⟨Kh2.out, Sh2.out, (cell_of_row _ _ _ _ _ _ Kh2.out).trans rfl, (cell_of_row _ _ _ _ _ _ Kh2.out).trans rfl, (cell_of_row _ _ _ _ _ _ Sh2.out).trans rfl, (cell_of_row _ _ _ _ _ _ Sh2.out).trans rfl, HB2.out⟩
    clear Kh2 Sh2 HB2
    go_region_held3 (fun w' => w'.heap[w.heap.size]? = some (.cells #[.int .i64 x, .int .i64 p] 23) ∧ w'.heap[w.heap.size + 1]? = some (.cells #[.int .i64 E, .int .i64 S] 25) ∧ w'.cell? ⟨w.heap.size, 0, none⟩ = some (.int .i64 x) ∧ w'.cell? ⟨w.heap.size, 1, none⟩ = some (.int .i64 p) ∧ w'.cell? ⟨w.heap.size + 1, 0, none⟩ = some (.int .i64 E) ∧ w'.cell? ⟨w.heap.size + 1, 1, none⟩ = some (.int .i64 S) ∧ Below w.heap.size w w') (first | assumption | exact HS0.out | exact tell_step (by assumption) hb | exact tell_stepN (by assumption) _ | exact tell_stepU (by assumption) | exact tell_stepN (tell_stepU (by assumption)) _) ((first | (go_at_call 10; refine (HF.out.key _ (HG.out.below (show _ ∧ _ ∧ _ ∧ _ ∧ _ ∧ _ ∧ Below w.heap.size w _ by assumption).2.2.2.2.2.2 HG.out.size) (HM.out.up (show _ ∧ _ ∧ _ ∧ _ ∧ _ ∧ _ ∧ Below w.heap.size w _ by assumption).2.2.2.2.2.2)).mono ?_; rintro e w' ⟨rfl, hb⟩) | (go_at_call 11; refine (HF.out.rkey _).mono ?_; rintro e w' ⟨rfl, hb⟩) | (go_at_call 12; refine (HF.out.of _).mono ?_; rintro e w' ⟨rfl, hb⟩) | (go_at_call 13; refine (HF.out.rof _).mono ?_; rintro e w' ⟨rfl, hb⟩) | (go_at_call 14; refine (HF.out.right _).mono ?_; rintro e w' ⟨rfl, hb⟩) | (go_at_call 15; refine (HF.out.rright _).mono ?_; rintro e w' ⟨rfl, hb⟩)))
    rename World => w3
    rename _ ∧ _ => hFin
    obtain ⟨qK, qS, -, -, -, -, qBel⟩ := hFin
    have Kh3 := Lib.hid qK
    have Sh3 := Lib.hid qS
    have HB3 := Lib.hid qBel
    clear HS0 qBel qK qS
    have cK0 : w3.cell? ⟨w.heap.size, 0, none⟩ = some (.int .i64 x) := (cell_of_row _ _ _ _ _ _ Kh3.out).trans rfl
    have cK1 : w3.cell? ⟨w.heap.size, 1, none⟩ = some (.int .i64 p) := (cell_of_row _ _ _ _ _ _ Kh3.out).trans rfl
    have cS0 : w3.cell? ⟨w.heap.size + 1, 0, none⟩ = some (.int .i64 E) := (cell_of_row _ _ _ _ _ _ Sh3.out).trans rfl
    have cS1 : w3.cell? ⟨w.heap.size + 1, 1, none⟩ = some (.int .i64 S) := (cell_of_row _ _ _ _ _ _ Sh3.out).trans rfl
    go_upto_region 7 with fail
    clear cK0 cK1 cS0 cS1
    have HS0 : Hid (w3.heap[w.heap.size]? = some (.cells #[.int .i64 x, .int .i64 p] 23) ∧ w3.heap[w.heap.size + 1]? = some (.cells #[.int .i64 E, .int .i64 S] 25) ∧ w3.cell? ⟨w.heap.size, 0, none⟩ = some (.int .i64 x) ∧ w3.cell? ⟨w.heap.size, 1, none⟩ = some (.int .i64 p) ∧ w3.cell? ⟨w.heap.size + 1, 0, none⟩ = some (.int .i64 E) ∧ w3.cell? ⟨w.heap.size + 1, 1, none⟩ = some (.int .i64 S) ∧ Below w.heap.size w w3) := Lib.hid ⟨Kh3.out, Sh3.out, (cell_of_row _ _ _ _ _ _ Kh3.out).trans rfl, (cell_of_row _ _ _ _ _ _ Kh3.out).trans rfl, (cell_of_row _ _ _ _ _ _ Sh3.out).trans rfl, (cell_of_row _ _ _ _ _ _ Sh3.out).trans rfl, HB3.out⟩
    clear Kh3 Sh3 HB3
    go_region_held3 (fun w' => w'.heap[w.heap.size]? = some (.cells #[.int .i64 x, .int .i64 p] 23) ∧ w'.heap[w.heap.size + 1]? = some (.cells #[.int .i64 E, .int .i64 S] 25) ∧ w'.cell? ⟨w.heap.size, 0, none⟩ = some (.int .i64 x) ∧ w'.cell? ⟨w.heap.size, 1, none⟩ = some (.int .i64 p) ∧ w'.cell? ⟨w.heap.size + 1, 0, none⟩ = some (.int .i64 E) ∧ w'.cell? ⟨w.heap.size + 1, 1, none⟩ = some (.int .i64 S) ∧ Below w.heap.size w w') (first | assumption | exact HS0.out | exact tell_step (by assumption) hb | exact tell_stepN (by assumption) _ | exact tell_stepU (by assumption) | exact tell_stepN (tell_stepU (by assumption)) _) ((first | (go_at_call 16; refine (HF.out.sign _ (HG.out.below (show _ ∧ _ ∧ _ ∧ _ ∧ _ ∧ _ ∧ Below w.heap.size w _ by assumption).2.2.2.2.2.2 HG.out.size) (HM.out.up (show _ ∧ _ ∧ _ ∧ _ ∧ _ ∧ _ ∧ Below w.heap.size w _ by assumption).2.2.2.2.2.2)).mono ?_; rintro e w' ⟨rfl, hb⟩) | (go_at_call 17; refine (HF.out.rsign _).mono ?_; rintro e w' ⟨rfl, hb⟩) | (go_at_call 18; refine (HF.out.ver _ (HG.out.below (show _ ∧ _ ∧ _ ∧ _ ∧ _ ∧ _ ∧ Below w.heap.size w _ by assumption).2.2.2.2.2.2 HG.out.size) (HM.out.up (show _ ∧ _ ∧ _ ∧ _ ∧ _ ∧ _ ∧ Below w.heap.size w _ by assumption).2.2.2.2.2.2)).mono ?_; rintro e w' ⟨rfl, hb⟩) | (go_at_call 19; refine (HF.out.rver _).mono ?_; rintro e w' ⟨rfl, hb⟩)))
    rename World => w4
    rename _ ∧ _ => hFin
    obtain ⟨qK, qS, -, -, -, -, qBel⟩ := hFin
    have Kh4 := Lib.hid qK
    have Sh4 := Lib.hid qS
    have HB4 := Lib.hid qBel
    clear HS0 qBel qK qS
    have cK0 : w4.cell? ⟨w.heap.size, 0, none⟩ = some (.int .i64 x) := (cell_of_row _ _ _ _ _ _ Kh4.out).trans rfl
    have cK1 : w4.cell? ⟨w.heap.size, 1, none⟩ = some (.int .i64 p) := (cell_of_row _ _ _ _ _ _ Kh4.out).trans rfl
    have cS0 : w4.cell? ⟨w.heap.size + 1, 0, none⟩ = some (.int .i64 E) := (cell_of_row _ _ _ _ _ _ Sh4.out).trans rfl
    have cS1 : w4.cell? ⟨w.heap.size + 1, 1, none⟩ = some (.int .i64 S) := (cell_of_row _ _ _ _ _ _ Sh4.out).trans rfl
    go_wp2_with fail
    go_ret
    exact ⟨rfl, HB4.out⟩
  · rw [decide_eq_false hs] at HSh
    clear hs hp
    go_enter Tryd.func3, Tryd.ntmps3
    go_upto_region 1 with fail
    have hR0 := heap_alloc_new (w.alloc (.cells #[.int .i64 x, .int .i64 p] 23)) (.cells #[.int .i64 E, .int .i64 S] 25)
    have hK1 : ((w.alloc (.cells #[.int .i64 x, .int .i64 p] 23)).alloc (.cells #[.int .i64 E, .int .i64 S] 25)).heap[w.heap.size]? = some (.cells #[.int .i64 x, .int .i64 p] 23) := blk_below HK0.out ((Below.refl _ _).alloc (Nat.le_refl _) _) (blk_lt HK0.out)
    have hs1 : (w.alloc (.cells #[.int .i64 x, .int .i64 p] 23)).heap.size = w.heap.size + 1 := World.size_alloc _ _
    have HB1 := Lib.hid (HB0.out.alloc HB0.out.size (.cells #[.int .i64 E, .int .i64 S] 25))
    rw [hs1] at hR0
    have Sh1 := Lib.hid hR0
    have Kh1 := Lib.hid hK1
    clear hR0 hK1 hs1 HK0 HB0
    generalize (w.alloc (.cells #[.int .i64 x, .int .i64 p] 23)).alloc (.cells #[.int .i64 E, .int .i64 S] 25) = w1 at *
    go_wp2_with fail
    refine (small_any _ (HG.out.below HB1.out HG.out.size) (HM.out.up HB1.out)).mono ?_
    rintro e w2 ⟨rfl, hb⟩
    have HB2 := Lib.hid (HB1.out.trans (hb.mono HB1.out.size))
    have Kh2 := Lib.hid (blk_below Kh1.out hb (blk_lt Kh1.out))
    have Sh2 := Lib.hid (blk_below Sh1.out hb (blk_lt Sh1.out))
    clear HB1 Kh1 Sh1
    clear hb
    have cK0 : w2.cell? ⟨w.heap.size, 0, none⟩ = some (.int .i64 x) := (cell_of_row _ _ _ _ _ _ Kh2.out).trans rfl
    have cK1 : w2.cell? ⟨w.heap.size, 1, none⟩ = some (.int .i64 p) := (cell_of_row _ _ _ _ _ _ Kh2.out).trans rfl
    have cS0 : w2.cell? ⟨w.heap.size + 1, 0, none⟩ = some (.int .i64 E) := (cell_of_row _ _ _ _ _ _ Sh2.out).trans rfl
    have cS1 : w2.cell? ⟨w.heap.size + 1, 1, none⟩ = some (.int .i64 S) := (cell_of_row _ _ _ _ _ _ Sh2.out).trans rfl
    go_wp2_with fail
    refine (HSh.out _).mono ?_
    rintro e wq ⟨rfl, rfl⟩
    go_wp2_with fail
    go_ret
    exact ⟨rfl, HB2.out⟩
end Go.Proofs.YtnomicccdhilbaaDoor
/- bournelaw05.SignTells returns true for every input that the statement speaks of, and leaves its arguments as they were. -/
namespace Go.Proofs.YtnomicccdhilbaaDoor.signTells
open Go.ChangeShapes Go.WideShapes Go.ChangeAt Go.RowKit Go.WideMaps Go.WideElems
open Go.ChangeMaps (open_string shut_string)
set_option maxRecDepth 100000 in
/-- what the walk gives, for all arguments -/
theorem contract (H : Type) (enc : TypeId × Value → H) (W : World) (base : Nat) (args : Array Value) (ds gs : List (DataW H)) (before : List MemPlace)
    (hval : ∀ (j : Nat) t v, Tryd.f3.params[j]? = some t → args[j]? = some v → Value.okWide Tryd.prog W .any base t v)
    (hW : DataW.Whole enc Tryd.prog Tryd.f3.params.toList Rows.signTellsSpec.vars false W args.toList ds gs before) (hsh : W.ShapedOpen Tryd.prog) (hL : laidMetH Tryd.prog Rows.signTellsRow.laid W)
    (hsz : (DataW.weightsEach Tryd.prog (Tryd.f3.params.toList ++ (OpenSpec.ofChange Rows.signTellsSpec).bare.plain.varTypes Tryd.prog) (ds ++ gs)).all (· ≤ reachBytes) = true) :
    Calls Tryd.prog 3 args W fun e W' => ∃ v, e = .returned v ∧ Rows.signTellsSpec.post enc Tryd.prog Tryd.f3 false true false false W args v W' := by
  have hW' := hW
  have hz : ∀ (j : Nat) t bytes, Tryd.f3.params.toList[j]? = some t → ds[j]? = some (.lit (.string bytes)) → bytes.length ≤ reachBytes := by
    intro j t bytes ht hd
    refine sized_string hsz (j := j) (t := t) ?_ ?_
    · rw [List.getElem?_append_left (List.getElem?_eq_some_iff.1 ht).1]; exact ht
    · rw [List.getElem?_append_left (List.getElem?_eq_some_iff.1 hd).1]; exact hd
  obtain ⟨p, q, hA0, hV, rfl, hfz, hnd⟩ := hW
  have hA : DataW.TrodAll enc Tryd.prog W 0 (fun _ => true) true Tryd.f3.params.toList args.toList ds p := hA0
  rw [Tryd.params3] at hA hval hz
  obtain ⟨v0, vs0, d0, ds0, p0, q0, hargs, rfl, rfl, h0, r0⟩ := trodAll_cons hA
  obtain ⟨v1, vs1, d1, ds1, p1, q1, rfl, rfl, rfl, h1, r1⟩ := trodAll_cons r0
  obtain ⟨v2, vs2, d2, ds2, p2, q2, rfl, rfl, rfl, h2, r2⟩ := trodAll_cons r1
  obtain ⟨v3, vs3, d3, ds3, p3, q3, rfl, rfl, rfl, h3, r3⟩ := trodAll_cons r2
  obtain ⟨v4, vs4, d4, ds4, p4, q4, rfl, rfl, rfl, h4, r4⟩ := trodAll_cons r3
  obtain ⟨v5, vs5, d5, ds5, p5, q5, rfl, rfl, rfl, h5, r5⟩ := trodAll_cons r4
  obtain ⟨rfl, rfl, rfl⟩ := trodAll_nil r5
  obtain rfl : args = #[v0, v1, v2, v3, v4, v5] := by cases args; simp_all
  obtain ⟨rfl, rfl⟩ := trodVars_none hV
  obtain ⟨a0, rfl, rfl, rfl, w0⟩ := open_string Tryd.underlying9 (hval 0 9 v0 rfl rfl) h0
  have z0 : a0.size ≤ reachBytes := hz 0 9 _ rfl rfl
  obtain ⟨a1, rfl, rfl, rfl, w1⟩ := open_string Tryd.underlying9 (hval 1 9 v1 rfl rfl) h1
  have z1 : a1.size ≤ reachBytes := hz 1 9 _ rfl rfl
  obtain ⟨a2, rfl, rfl, rfl, w2⟩ := open_string Tryd.underlying9 (hval 2 9 v2 rfl rfl) h2
  have z2 : a2.size ≤ reachBytes := hz 2 9 _ rfl rfl
  obtain ⟨a3, b3, rfl, w3, l3⟩ := arg_key (hval 3 23 v3 rfl rfl) h3
  have lt3 := trod_below h3
  obtain ⟨a4, rfl, rfl, rfl, w4⟩ := open_int Tryd.underlying3 (hval 4 3 v4 rfl rfl) h4
  obtain ⟨a5, b5, rfl, w5, l5⟩ := arg_sig (hval 5 25 v5 rfl rfl) h5
  have lt5 := trod_below h5
  clear hA0
  simp only [List.append_nil] at hW'
  refine ((fun a0 a1 a2 a3 b3 a4 a5 b5 W (_ : I64 a3) (_ : I64 b3) w4 (_ : I64 a5) (_ : I64 b5) => tells_core a0 a1 a2 a3 b3 a4 a5 b5 W w4) a0 a1 a2 a3 b3 a4 a5 b5 W w3 l3 (i64_wf w4) w5 l5 (glob_of_laid hL) (mlen_of hsh) (by have hr := reachBytes_lt; omega)).mono fun e W' ⟨he, hb⟩ => ?_
  subst he
  exact ⟨_, rfl, _, _, _, [], _, [], hW', trodAll_cons_mk (shut_bool Tryd.underlying4 _) trodAll_mk0, (trodAll_cons_mk (shut_string Tryd.underlying9 w0) (trodAll_cons_mk (shut_string Tryd.underlying9 w1) (trodAll_cons_mk (shut_string Tryd.underlying9 w2) (trodAll_cons_mk (Below.trod laidOut (by kernel_rfl) (of_decide_eq_true (by kernel_rfl)) h3 hb lt3) (trodAll_cons_mk (shut_int Tryd.underlying3 w4) (trodAll_cons_mk (Below.trod laidOut (by kernel_rfl) (of_decide_eq_true (by kernel_rfl)) h5 hb lt5) trodAll_mk0)))))), rfl, hb.frame _, fun h => by cases h⟩
theorem laid_met (os : Os) : laidMet Tryd.prog Rows.signTellsRow.laid ((laidWorld os).forCall (fun _ _ => 0) ⟨#[], #[.string ⟨#[]⟩, .string ⟨#[]⟩, .string ⟨#[]⟩, .agg #[.int .i64 0, .int .i64 0], .int .i64 0, .agg #[.int .i64 0, .int .i64 0]], []⟩).memory :=
  laidMet_of_run' 8 (by kernel_rfl) (by kernel_rfl)
theorem reads (os : Os) {H : Type} (enc : TypeId × Value → H) : ∃ places, DataW.whole enc Tryd.prog ((laidWorld os).forCall (fun _ _ => 0) ⟨#[], #[.string ⟨#[]⟩, .string ⟨#[]⟩, .string ⟨#[]⟩, .agg #[.int .i64 0, .int .i64 0], .int .i64 0, .agg #[.int .i64 0, .int .i64 0]], []⟩).memory Tryd.f3.params.toList Rows.signTellsSpec.vars false (#[.string ⟨#[]⟩, .string ⟨#[]⟩, .string ⟨#[]⟩, .agg #[.int .i64 0, .int .i64 0], .int .i64 0, .agg #[.int .i64 0, .int .i64 0]] : Array Value).toList 8 = some ([.lit (.string []), .lit (.string []), .lit (.string []), .agg [.lit (.int .i64 0), .lit (.int .i64 0)], .lit (.int .i64 0), .agg [.lit (.int .i64 0), .lit (.int .i64 0)]], [], places) :=
  ⟨[], by kernel_rfl⟩
set_option maxRecDepth 100000 in
theorem lifted (os : Os) (started : os.Started) (H : Type) (enc : TypeId × Value → H) (F : Stop.Interp) :
    ReturnsInHanded {} Tryd.checked os 3 .any ((OpenSpec.ofChange Rows.signTellsSpec).preRow enc Tryd.prog Tryd.f3 Rows.signTellsRow.domain false Rows.signTellsRow.laid) (((OpenSpec.ofChange Rows.signTellsSpec).at F).post enc Tryd.prog Tryd.f3 false true false false) := by
  obtain ⟨places, hx⟩ := reads os enc
  refine returnsInHanded_of_row (C := Tryd.checked) (s := OpenSpec.ofChange Rows.signTellsSpec) own started (by kernel_rfl) Tryd.func3
    (witness_row_at (enc := enc) (C := Tryd.checked) false (laidWorld os) #[.string ⟨#[]⟩, .string ⟨#[]⟩, .string ⟨#[]⟩, .agg #[.int .i64 0, .int .i64 0], .int .i64 0, .agg #[.int .i64 0, .int .i64 0]] rfl (by kernel_rfl) (by kernel_rfl) (by kernel_rfl)
      (OpenSpec.preRow_of_cond 8 hx (by kernel_rfl) (fun k hk => by cases hk) (by kernel_rfl) (laid_met os))) ?_
  intro W base args ds gs before hval hW _ _ hsz hL hsh _
  exact contract H enc W base args ds gs before hval hW hsh hL hsz
theorem said : Rows.SignTellsSaid :=
  OpenClaim.holds_of_cond 3 Tryd.f3 rfl rfl rfl rfl rfl rfl rfl ⟨rfl, rfl, rfl, rfl, rfl⟩ rfl rfl rfl rfl rfl (by kernel_rfl) Tryd.func3 (by kernel_rfl)
    (of_decide_eq_true (by kernel_rfl)) (by unfold Func.isWrapper; first | (rw [if_pos (by decide +kernel)]; kernel_rfl) | (rw [if_neg (by decide +kernel)]; exact ⟨rfl, rfl⟩))
    (fun os started H enc _ F => by rw [OpenClaim.pre_eq_preRow]; exact lifted os started H enc F)
theorem plain (f : FuncId) (fn : Func) (hf : Tryd.pinned.checked.prog.funcNamed "bourne/bournelaw05.SignTells" = some f) (hfn : Tryd.pinned.checked.prog.funcs[f]? = some fn) :
    false = Tryd.pinned.checked.prog.looks [] ∧ ∀ (j : Nat) t, fn.params[j]? = some t → Tryd.pinned.checked.prog.wantsStandIn t = false := by
  obtain rfl : f = 3 := Option.some.inj ((show Tryd.prog.funcNamed "bourne/bournelaw05.SignTells" = some 3 by kernel_rfl).symm.trans hf) |>.symm
  obtain rfl : fn = Tryd.f3 := (Option.some.inj (Tryd.func3.symm.trans hfn)).symm
  refine ⟨by kernel_rfl, fun j t ht => ?_⟩
  rw [Tryd.params3] at ht
  have hm : t = 9 ∨ t = 9 ∨ t = 9 ∨ t = 23 ∨ t = 3 ∨ t = 25 := by simpa using Array.mem_of_getElem? ht
  have h1 : ∀ t, (t = 9 ∨ t = 9 ∨ t = 9 ∨ t = 23 ∨ t = 3 ∨ t = 25) → Tryd.prog.wantsStandIn t = false := by
    intro t ht
    rcases ht with rfl | rfl | rfl | rfl | rfl | rfl
    · exact (show Tryd.prog.wantsStandIn 9 = false by kernel_rfl)
    · exact (show Tryd.prog.wantsStandIn 9 = false by kernel_rfl)
    · exact (show Tryd.prog.wantsStandIn 9 = false by kernel_rfl)
    · exact (show Tryd.prog.wantsStandIn 23 = false by kernel_rfl)
    · exact (show Tryd.prog.wantsStandIn 3 = false by kernel_rfl)
    · exact (show Tryd.prog.wantsStandIn 25 = false by kernel_rfl)
  exact h1 t hm
/-- the tied card -/
theorem card : Rows.SignTellsCardSaid :=
  Claim7.holds_tied_plain_at .later [] _ _ _ _ said (fun _ h => by cases h) (by kernel_rfl) (fun _ h => by cases h) signTells_row_tie rfl ⟨rfl, rfl⟩ (by kernel_rfl) rfl plain (by kernel_rfl)
end Go.Proofs.YtnomicccdhilbaaDoor.signTells
