/- bourneref05.Sign. -/
import Derived.Test.YtgjklfddoechpaaGreatDoorSRef6
import Derived.Outline
namespace Go.Proofs.YtgjklfddoechpaaGreatDoor
open Go.RowKit
theorem sg0_step {w cur w' : World} {k : Nat} {A B : Obj} {v : Value} (h : (cur.heap[k]? = some A ∧ cur.heap[k + 1]? = some B) ∧ cur.cell? ⟨k, 0, none⟩ = some v ∧ Below w.heap.size w cur) (hb : Below cur.heap.size cur w') :
    (w'.heap[k]? = some A ∧ w'.heap[k + 1]? = some B) ∧ w'.cell? ⟨k, 0, none⟩ = some v ∧ Below w.heap.size w w' := by
  obtain ⟨⟨a, b⟩, c, d⟩ := h
  exact ⟨⟨blk_below a hb (blk_lt a), blk_below b hb (blk_lt b)⟩, (hb.cell (p := ⟨k, 0, none⟩) (blk_lt a)).trans c, d.trans (hb.mono d.size)⟩
theorem sg0_stepN {w cur : World} {k : Nat} {A B : Obj} {v : Value} (h : (cur.heap[k]? = some A ∧ cur.heap[k + 1]? = some B) ∧ cur.cell? ⟨k, 0, none⟩ = some v ∧ Below w.heap.size w cur) (j : Nat) :
    ((cur.drewN j).heap[k]? = some A ∧ (cur.drewN j).heap[k + 1]? = some B) ∧ (cur.drewN j).cell? ⟨k, 0, none⟩ = some v ∧ Below w.heap.size w (cur.drewN j) := by
  obtain ⟨⟨a, b⟩, c, d⟩ := h
  exact ⟨⟨a, b⟩, c, below_drewN d⟩
theorem sg0_stepU {w cur : World} {k j : Nat} {A B : Obj} {v : Value} (h : ((cur.drewN j).heap[k]? = some A ∧ (cur.drewN j).heap[k + 1]? = some B) ∧ (cur.drewN j).cell? ⟨k, 0, none⟩ = some v ∧ Below w.heap.size w (cur.drewN j)) :
    (cur.heap[k]? = some A ∧ cur.heap[k + 1]? = some B) ∧ cur.cell? ⟨k, 0, none⟩ = some v ∧ Below w.heap.size w cur := by
  obtain ⟨⟨a, b⟩, c, d⟩ := h
  exact ⟨⟨a, b⟩, c, ⟨d.os, d.tape, d.output, d.size, d.block⟩⟩
set_option maxRecDepth 100000 in
set_option maxHeartbeats 4000000 in
theorem rsign_yes (x : Nat) (c m : ByteArray) (w : World) (h1 : 1 ≤ x) (h2 : x < 1152921504606845789) (hc : c.size ≤ 2000) (hm : m.size ≤ 2000) :
    Calls Tryz.prog 57 #[.agg #[.int .i64 x, .int .i64 (pubN x : Nat)], .string c, .string m] w fun e w' => e = .returned (.agg #[.int .i64 (sgE x c.data.toList m.data.toList : Nat), .int .i64 (sgS x c.data.toList m.data.toList : Nat)]) ∧ Below w.heap.size w w' := by
  obtain ⟨p, hp⟩ : ∃ p : Nat, p = pubN x := ⟨_, rfl⟩
  obtain ⟨n, hn⟩ : ∃ n, n = nonceN x c.data.toList m.data.toList := ⟨_, rfl⟩
  obtain ⟨r, hr⟩ : ∃ r, r = 4 ^ n % gP := ⟨_, rfl⟩
  obtain ⟨y, hy⟩ : ∃ y, y = sgE x c.data.toList m.data.toList := ⟨_, rfl⟩
  obtain ⟨s, hs⟩ : ∃ s, s = sgS x c.data.toList m.data.toList := ⟨_, rfl⟩
  have hnb := nonceN_bd x c.data.toList m.data.toList
  rw [← hn] at hnb
  have hyb : y < 1152921504606845789 := by rw [hy]; exact chalN_lt _ _ _ _
  have hpl : p < 2305843009213691579 := by rw [hp]; exact lt_p _
  have hrl : r < 2305843009213691579 := by rw [hr]; exact lt_p _
  have HR : Hid (∀ w0, Calls Tryz.prog 108 #[.agg #[.int .i64 x, .int .i64 p]] w0 fun e w' => e = .returned (.bool true) ∧ Below w0.heap.size w0 w') := Lib.hid (fun w0 => by
    have h := rrightK_any x p w0
    rw [decide_eq_true (show RightK x p from ⟨by omega, by omega, by rw [hp, Int.toNat_natCast]⟩)] at h
    exact h)
  obtain ⟨T, hT⟩ : ∃ T : ByteArray → ByteArray, T = fun s => ⟨(textL s.data.toList).toArray⟩ := ⟨_, rfl⟩
  obtain ⟨t2, ht2⟩ : ∃ t : ByteArray, t = ⟨(numL x).toArray⟩ := ⟨_, rfl⟩
  have HTx : Hid (∀ s w0, s.size ≤ 2000 → Calls Tryz.prog 51 #[.string s] w0 fun e w' => e = .returned (.string (T s)) ∧ Below w0.heap.size w0 w') := Lib.hid (fun s w0 h => by rw [hT]; exact rtext_any s w0 (by omega))
  have HNm : Hid (∀ w0, Calls Tryz.prog 69 #[.int .i64 x] w0 fun e w' => e = .returned (.string t2) ∧ Below w0.heap.size w0 w') := Lib.hid (fun w0 => by rw [ht2]; exact rnum_any x w0 ⟨by omega, by omega⟩)
  have l1 : (T ⟨#[110, 111, 110, 99, 101]⟩).size ≤ 12 := by
    have h := textL_len nonceB
    have h2 : (T ⟨#[110, 111, 110, 99, 101]⟩).data.toList.length ≤ 12 := by rw [hT]; show (textL nonceB).length ≤ 12; have b1 : nonceB.length = 5 := rfl; omega
    exact h2
  have l2 : t2.size ≤ 9 := by
    have h := numL_len (n := (x : Int)) ⟨by omega, by omega⟩
    have h2 : t2.data.toList.length ≤ 9 := by rw [ht2]; exact h
    exact h2
  have l4 : (T c).size ≤ 4002 := by
    have h := textL_len c.data.toList
    have b4 : c.data.toList.length ≤ 2000 := hc
    have h2 : (T c).data.toList.length ≤ 4002 := by rw [hT]; show (textL c.data.toList).length ≤ 4002; omega
    exact h2
  have l5 : (T m).size ≤ 4002 := by
    have h := textL_len m.data.toList
    have b4 : m.data.toList.length ≤ 2000 := hm
    have h2 : (T m).data.toList.length ≤ 4002 := by rw [hT]; show (textL m.data.toList).length ≤ 4002; omega
    exact h2
  obtain ⟨z1, hz1⟩ : ∃ z, z = shortL (nonceL x c.data.toList m.data.toList) := ⟨_, rfl⟩
  have HSo : Hid (∀ w0, Calls Tryz.prog 70 #[.string (T ⟨#[110, 111, 110, 99, 101]⟩ ++ t2 ++ T c ++ T m)] w0 fun e w' => e = .returned (.int .i64 (z1 : Nat)) ∧ Below w0.heap.size w0 w') := Lib.hid (fun w0 => by
    have h := rshort_any (T ⟨#[110, 111, 110, 99, 101]⟩ ++ t2 ++ T c ++ T m) w0 (by rw [ByteArray.size_append, ByteArray.size_append, ByteArray.size_append]; omega)
    rw [cat_bytes, cat_bytes, cat_bytes, hT, ht2] at h
    rw [hz1, hT, ht2]
    have e : textL nonceB ++ numL x ++ textL c.data.toList ++ textL m.data.toList = nonceL x c.data.toList m.data.toList := by simp [nonceL]
    rw [← e]
    exact h)
  have q1 : ¬ 9223372036854775807 < (T ⟨#[110, 111, 110, 99, 101]⟩).size + t2.size := by omega
  have q2 : ¬ 9223372036854775807 < (T ⟨#[110, 111, 110, 99, 101]⟩).size + t2.size + (T c).size := by omega
  have q3 : ¬ 9223372036854775807 < (T ⟨#[110, 111, 110, 99, 101]⟩).size + t2.size + (T c).size + (T m).size := by omega
  have hz1b : z1 < 1152921504606846976 := by rw [hz1]; exact shortL_lt _
  obtain ⟨v1, hv1⟩ : ∃ v, v = z1 % (gQ - 1) := ⟨_, rfl⟩
  have FV1 : (z1 : Int) % 1152921504606845788 = (v1 : Int) := by rw [hv1]; exact (Int.natCast_emod z1 (gQ - 1)).symm
  have hnv : n = 1 + v1 := by rw [hn, hv1, hz1]; rfl
  have FN1 : 1 + (v1 : Int) = (n : Int) := by omega
  have hv1b : v1 < 1152921504606845788 := by omega
  have HCs := Lib.hid hc
  have HMs := Lib.hid hm
  have FW : Hid (IntKind.i64.wrap (1 + (z1 : Int).tmod 1152921504606845788) = (n : Int)) := Lib.hid (by
    rw [Int.tmod_eq_emod_of_nonneg (by omega), FV1, FN1]
    exact IntWalk.i64_in _ (by omega))
  clear FV1 FN1
  have HE : Hid (∀ w0, Calls Tryz.prog 68 #[.int .i64 4, .int .i64 n] w0 fun e w' => e = .returned (.int .i64 (r : Nat)) ∧ w' = w0) := Lib.hid (fun w0 => by
    have h := rexp_any 4 n w0 ⟨by omega, by omega⟩ ⟨by omega, by omega⟩
    rw [res4, Int.toNat_natCast, ← hr] at h
    exact h)
  have HC : Hid (∀ w0, Calls Tryz.prog 33 #[.int .i64 (r : Nat), .int .i64 p, .string c, .string m] w0 fun e w' => e = .returned (.int .i64 (y : Nat)) ∧ Below w0.heap.size w0 w') := Lib.hid (fun w0 => by
    have h := rchal_any r p c m w0 ⟨by omega, by omega⟩ ⟨by omega, by omega⟩ hc hm
    have e : chalN (r : Nat) (p : Nat) c.data.toList m.data.toList = y := by rw [hy, hr, hp, hn]; rfl
    rw [e] at h
    exact h)
  have HQ : Hid (∀ w0, Calls Tryz.prog 110 #[.int .i64 y, .int .i64 x] w0 fun e w' => e = .returned (.int .i64 (mulN y x gQ : Nat)) ∧ w' = w0) := Lib.hid (fun w0 => rmulQ_any y x w0 ⟨by omega, by omega⟩ ⟨by omega, by omega⟩)
  have hzb : mulN (y : Int) (x : Int) gQ < 1152921504606845789 := mulN_lt _ _ (by decide)
  have HA : Hid (∀ w0, Calls Tryz.prog 109 #[.int .i64 n, .int .i64 (mulN y x gQ : Nat)] w0 fun e w' => e = .returned (.int .i64 (s : Nat)) ∧ w' = w0) := Lib.hid (fun w0 => by
    have h := raddQ_any n (mulN y x gQ : Nat) w0 ⟨by omega, by omega⟩ ⟨by omega, by omega⟩
    have e : (n + y * x) % gQ = s := by rw [hs, hy, hn]; rfl
    rw [sum_q (by show n < 1152921504606845789; omega) hyb h2, e] at h
    exact h)
  generalize mulN (y : Int) (x : Int) gQ = z at *
  rw [← hp, ← hy, ← hs]
  have HK0 := Lib.hid (heap_alloc_new w (.cells #[.int .i64 x, .int .i64 p] 29))
  have HB0 := Lib.hid ((Below.refl w.heap.size w).alloc (Nat.le_refl _) (.cells #[.int .i64 x, .int .i64 p] 29))
  clear hT ht2 l1 l2 l4 l5 hz1 hv1 hnv hp hn hr hy hs hnb hyb hpl hrl h1 h2 hc hm  hzb
  go_enter Tryz.func57, Tryz.ntmps57
  go_upto_region 1 with fail
  have hR0 := heap_alloc_new (w.alloc (.cells #[.int .i64 x, .int .i64 p] 29)) (.cells #[.int .i64 0, .int .i64 0] 23)
  have hK1 : ((w.alloc (.cells #[.int .i64 x, .int .i64 p] 29)).alloc (.cells #[.int .i64 0, .int .i64 0] 23)).heap[w.heap.size]? = some (.cells #[.int .i64 x, .int .i64 p] 29) := blk_below HK0.out ((Below.refl _ _).alloc (Nat.le_refl _) _) (blk_lt HK0.out)
  have hs1 : (w.alloc (.cells #[.int .i64 x, .int .i64 p] 29)).heap.size = w.heap.size + 1 := World.size_alloc _ _
  have HB1 := Lib.hid (HB0.out.alloc HB0.out.size (.cells #[.int .i64 0, .int .i64 0] 23))
  rw [hs1] at hR0
  have HR0 := Lib.hid hR0
  have HK1 := Lib.hid hK1
  clear hR0 hK1 hs1 HK0 HB0
  generalize (w.alloc (.cells #[.int .i64 x, .int .i64 p] 29)).alloc (.cells #[.int .i64 0, .int .i64 0] 23) = w2 at *
  obtain ⟨k0, k1⟩ : w2.cell? ⟨w.heap.size, 0, none⟩ = some (.int .i64 x) ∧ w2.cell? ⟨w.heap.size, 1, none⟩ = some (.int .i64 p) := ⟨(cell_of_row _ _ _ _ _ _ HK1.out).trans rfl, (cell_of_row _ _ _ _ _ _ HK1.out).trans rfl⟩
  go_wp2_with fail
  refine (HR.out _).mono ?_
  rintro e w3 ⟨rfl, hb⟩
  have HB3 := Lib.hid (HB1.out.trans (hb.mono HB1.out.size))
  have HK3 := Lib.hid (blk_below HK1.out hb (blk_lt HK1.out))
  have HR3 := Lib.hid (blk_below HR0.out hb (blk_lt HR0.out))
  clear hb k0 k1 HB1 HK1 HR0
  obtain ⟨k0, k1⟩ : w3.cell? ⟨w.heap.size, 0, none⟩ = some (.int .i64 x) ∧ w3.cell? ⟨w.heap.size, 1, none⟩ = some (.int .i64 p) := ⟨(cell_of_row _ _ _ _ _ _ HK3.out).trans rfl, (cell_of_row _ _ _ _ _ _ HK3.out).trans rfl⟩
  go_upto_region 4 with fail
  have HS0 : Hid ((w3.heap[w.heap.size]? = some (.cells #[.int .i64 x, .int .i64 p] 29) ∧ w3.heap[w.heap.size + 1]? = some (.cells #[.int .i64 0, .int .i64 0] 23)) ∧ w3.cell? ⟨w.heap.size, 0, none⟩ = some (.int .i64 x) ∧ Below w.heap.size w w3) := Lib.hid
    ⟨⟨HK3.out, HR3.out⟩, (cell_of_row _ _ _ _ _ _ HK3.out).trans rfl, HB3.out⟩
  clear HK3 HR3 HB3 k0 k1
  go_region_held3 (fun w' => (w'.heap[w.heap.size]? = some (.cells #[.int .i64 x, .int .i64 p] 29) ∧ w'.heap[w.heap.size + 1]? = some (.cells #[.int .i64 0, .int .i64 0] 23)) ∧ w'.cell? ⟨w.heap.size, 0, none⟩ = some (.int .i64 x) ∧ Below w.heap.size w w') (first | assumption | exact HS0.out | exact sg0_step (by assumption) hb | exact sg0_stepN (by assumption) _ | exact sg0_stepU (by assumption) | exact sg0_stepN (sg0_stepU (by assumption)) _) ((first | (go_at_call 51; refine (HTx.out _ _ (by first | exact HCs.out | exact HMs.out | decide)).mono ?_; rintro e w' ⟨rfl, hb⟩) | (go_at_call 69; refine (HNm.out _).mono ?_; rintro e w' ⟨rfl, hb⟩) | (go_at_call 70; refine (HSo.out _).mono ?_; rintro e w' ⟨rfl, hb⟩)))
  rename World => w4
  rename _ ∧ _ => hFin
  obtain ⟨⟨hk4, hr4⟩, -, hbw4⟩ := hFin
  have HK4 := Lib.hid hk4
  have HR4 := Lib.hid hr4
  have HB4 := Lib.hid hbw4
  clear hk4 hr4 hbw4 HS0
  simp only [FW.out]
  go_upto_region 5 with fail
  have HS0 : Hid ((w4.heap[w.heap.size]? = some (.cells #[.int .i64 x, .int .i64 p] 29) ∧ w4.heap[w.heap.size + 1]? = some (.cells #[.int .i64 0, .int .i64 0] 23)) ∧ w4.cell? ⟨w.heap.size, 1, none⟩ = some (.int .i64 p) ∧ Below w.heap.size w w4) := Lib.hid
    ⟨⟨HK4.out, HR4.out⟩, (cell_of_row _ _ _ _ _ _ HK4.out).trans rfl, HB4.out⟩
  clear HK4 HR4 HB4
  go_region_held3 (fun w' => (w'.heap[w.heap.size]? = some (.cells #[.int .i64 x, .int .i64 p] 29) ∧ w'.heap[w.heap.size + 1]? = some (.cells #[.int .i64 0, .int .i64 0] 23)) ∧ w'.cell? ⟨w.heap.size, 1, none⟩ = some (.int .i64 p) ∧ Below w.heap.size w w') (first | assumption | exact HS0.out | exact sg_step (by assumption) hb | exact sg_stepN (by assumption) _) ((first | (go_at_call 68; refine (HE.out _).mono ?_; rintro e w' ⟨rfl, rfl⟩) | (go_at_call 33; refine (HC.out _).mono ?_; rintro e w' ⟨rfl, hb⟩)))
  rename World => w'
  rename _ ∧ _ => hFin
  obtain ⟨⟨hk, hr⟩, -, hbw⟩ := hFin
  have HK5 := Lib.hid hk
  have HR5 := Lib.hid hr
  have HB5 := Lib.hid hbw
  clear hk hr hbw
  have k0 : w'.cell? ⟨w.heap.size, 0, none⟩ = some (.int .i64 x) := (cell_of_row _ _ _ _ _ _ HK5.out).trans rfl
  go_wp2_with fail
  refine (HQ.out _).mono ?_
  rintro e w6 ⟨rfl, rfl⟩
  have HB6 := HB5
  have HR6 := HR5
  go_wp2_with fail
  refine (HA.out _).mono ?_
  rintro e w7 ⟨rfl, rfl⟩
  obtain ⟨r0, r1⟩ : w7.cell? ⟨w.heap.size + 1, 0, none⟩ = some (.int .i64 0) ∧ w7.cell? ⟨w.heap.size + 1, 1, none⟩ = some (.int .i64 0) := ⟨(cell_of_row _ _ _ _ _ _ HR6.out).trans rfl, (cell_of_row _ _ _ _ _ _ HR6.out).trans rfl⟩
  have f0 : ∀ j, w7.frozen? ⟨w.heap.size + 1, j, none⟩ = false := fun j => frozen_of_row _ _ _ _ _ HR6.out
  go_wp2_with fail
  refine bodyPost_ret (v := .agg #[.int .i64 y, .int .i64 s]) (results_cell_row rfl _ _ _ 23 _ (0, 0) _ rfl (two_set HR6.out) undSig rfl infoSig) rfl ⟨rfl, ?_⟩
  exact (HB6.out.setCell (Nat.le_succ _) _).setCell (Nat.le_succ _) _
set_option maxRecDepth 100000 in
set_option maxHeartbeats 4000000 in
theorem rsign_no (x p : Int) (c m : ByteArray) (w : World) (h : ¬ RightK x p) :
    Calls Tryz.prog 57 #[.agg #[.int .i64 x, .int .i64 p], .string c, .string m] w fun e w' => e = .returned (.agg #[.int .i64 0, .int .i64 0]) ∧ Below w.heap.size w w' := by
  have HR : Hid (∀ w0, Calls Tryz.prog 108 #[.agg #[.int .i64 x, .int .i64 p]] w0 fun e w' => e = .returned (.bool false) ∧ Below w0.heap.size w0 w') := Lib.hid (fun w0 => by
    have h2 := rrightK_any x p w0
    rw [decide_eq_false h] at h2
    exact h2)
  have HK0 := Lib.hid (heap_alloc_new w (.cells #[.int .i64 x, .int .i64 p] 29))
  have HB0 := Lib.hid ((Below.refl w.heap.size w).alloc (Nat.le_refl _) (.cells #[.int .i64 x, .int .i64 p] 29))
  clear h
  go_enter Tryz.func57, Tryz.ntmps57
  go_upto_region 1 with fail
  have hR0 := heap_alloc_new (w.alloc (.cells #[.int .i64 x, .int .i64 p] 29)) (.cells #[.int .i64 0, .int .i64 0] 23)
  have hK1 : ((w.alloc (.cells #[.int .i64 x, .int .i64 p] 29)).alloc (.cells #[.int .i64 0, .int .i64 0] 23)).heap[w.heap.size]? = some (.cells #[.int .i64 x, .int .i64 p] 29) := blk_below HK0.out ((Below.refl _ _).alloc (Nat.le_refl _) _) (blk_lt HK0.out)
  have hs1 : (w.alloc (.cells #[.int .i64 x, .int .i64 p] 29)).heap.size = w.heap.size + 1 := World.size_alloc _ _
  have HB1 := Lib.hid (HB0.out.alloc HB0.out.size (.cells #[.int .i64 0, .int .i64 0] 23))
  rw [hs1] at hR0
  have HR0 := Lib.hid hR0
  have HK1 := Lib.hid hK1
  clear hR0 hK1 hs1 HK0 HB0
  generalize (w.alloc (.cells #[.int .i64 x, .int .i64 p] 29)).alloc (.cells #[.int .i64 0, .int .i64 0] 23) = w2 at *
  obtain ⟨k0, k1⟩ : w2.cell? ⟨w.heap.size, 0, none⟩ = some (.int .i64 x) ∧ w2.cell? ⟨w.heap.size, 1, none⟩ = some (.int .i64 p) := ⟨(cell_of_row _ _ _ _ _ _ HK1.out).trans rfl, (cell_of_row _ _ _ _ _ _ HK1.out).trans rfl⟩
  go_wp2_with fail
  refine (HR.out _).mono ?_
  rintro e w3 ⟨rfl, hb⟩
  have HB3 := Lib.hid (HB1.out.trans (hb.mono HB1.out.size))
  have HR6 := Lib.hid (blk_below HR0.out hb (blk_lt HR0.out))
  clear hb k0 k1 HB1 HK1 HR0
  obtain ⟨r0, r1⟩ : w3.cell? ⟨w.heap.size + 1, 0, none⟩ = some (.int .i64 0) ∧ w3.cell? ⟨w.heap.size + 1, 1, none⟩ = some (.int .i64 0) := ⟨(cell_of_row _ _ _ _ _ _ HR6.out).trans rfl, (cell_of_row _ _ _ _ _ _ HR6.out).trans rfl⟩
  have f0 : ∀ j, w3.frozen? ⟨w.heap.size + 1, j, none⟩ = false := fun j => frozen_of_row _ _ _ _ _ HR6.out
  go_wp2_with fail
  refine bodyPost_ret (v := .agg #[.int .i64 0, .int .i64 0]) (results_cell_row rfl _ _ _ 23 _ (0, 0) _ rfl (two_set HR6.out) undSig rfl infoSig) rfl ⟨rfl, ?_⟩
  exact (HB3.out.setCell (Nat.le_succ _) _).setCell (Nat.le_succ _) _
theorem rsign_any (x p : Int) (c m : ByteArray) (w : World) (hc : c.size ≤ 2000) (hm : m.size ≤ 2000) :
    Calls Tryz.prog 57 #[.agg #[.int .i64 x, .int .i64 p], .string c, .string m] w fun e w' => e = .returned (.agg #[.int .i64 (signR x p c.data.toList m.data.toList).1, .int .i64 (signR x p c.data.toList m.data.toList).2]) ∧ Below w.heap.size w w' := by
  unfold signR
  by_cases h : RightK x p
  · rw [if_pos h]
    obtain ⟨n, rfl⟩ : ∃ n : Nat, x = n := ⟨x.toNat, by have := h.1; omega⟩
    have h2 : p = (pubN n : Nat) := h.2.2
    rw [h2]
    exact rsign_yes n c m w (by have := h.1; omega) (by have := h.2.1; omega) hc hm
  · rw [if_neg h]
    exact rsign_no x p c m w h
end Go.Proofs.YtgjklfddoechpaaGreatDoor
