/- Texts merged: SSign SLaw CInts -/
import Derived.Outline
import Derived.Test.YtepidpegoihllaaGreatDoorSVer
import Derived.Laws.StructEq
import Derived.Test.YtepidpegoihllaaGreatDoorNPow
import Derived.Test.YtepidpegoihllaaGreatDoorSHash
/- sign.Sign. -/
namespace Go.Proofs.YtepidpegoihllaaGreatDoor
open Go.RowKit
theorem undSig : Tryz.prog.underlying 41 = some (.struct (Tryz.prog.fieldsOf 41)) := by kernel_rfl
theorem infoSig : (Tryz.prog.info? 41).map (·.size) = some 2 := by kernel_rfl
def sgE (x : Nat) (c m : List UInt8) : Nat := chalN (4 ^ nonceN x c m % gP : Nat) (pubN x : Nat) c m
def sgS (x : Nat) (c m : List UInt8) : Nat := (nonceN x c m + sgE x c m * x) % gQ
def RightK (x p : Int) : Prop := 1 ≤ x ∧ x < 1152921504606845789 ∧ p = (pubN x.toNat : Nat)
instance (x p : Int) : Decidable (RightK x p) := by
  unfold RightK
  infer_instance
theorem rightK_any (x p : Int) (w : World) :
    Calls Tryz.prog 76 #[.agg #[.int .i64 x, .int .i64 p]] w fun e w' => e = .returned (.bool (decide (RightK x p))) ∧ Below w.heap.size w w' := by
  by_cases h : 1 ≤ x ∧ x < 1152921504606845789
  · obtain ⟨n, rfl⟩ : ∃ n : Nat, x = n := ⟨x.toNat, by omega⟩
    have e : decide (RightK (n : Int) p) = decide (p = (pubN n : Nat)) := by
      rw [Bool.eq_iff_iff, decide_eq_true_iff, decide_eq_true_iff]
      exact ⟨fun g => g.2.2, fun g => ⟨h.1, h.2, g⟩⟩
    rw [e]
    exact right_yes n p w (by omega) (by omega)
  · have e : decide (RightK x p) = false := decide_eq_false (fun g => h ⟨g.1, g.2.1⟩)
    rw [e]
    exact right_no x p w (by omega)
theorem nonceN_bd (r : Int) (c m : List UInt8) : 1 ≤ nonceN r c m ∧ nonceN r c m < 1152921504606845789 := by
  unfold nonceN
  have h : shortL (nonceL r c m) % (gQ - 1) < gQ - 1 := Nat.mod_lt _ (by decide)
  have e : gQ - 1 = 1152921504606845788 := rfl
  generalize shortL (nonceL r c m) % (gQ - 1) = q at *
  omega
theorem chalN_lt (r p : Int) (c m : List UInt8) : chalN r p c m < 1152921504606845789 := Nat.mod_lt _ (by decide)
theorem sum_q {n e x : Nat} (hn : n < gQ) (he : e < gQ) (hx : x < gQ) : (resN (n : Int) gQ + resN (mulN (e : Int) (x : Int) gQ : Nat) gQ) % gQ = (n + e * x) % gQ := by
  rw [mulN_nat he hx, resN_of hn, resN_of (Nat.mod_lt _ (by decide)), Nat.add_mod_mod]
theorem sg_step {w cur w' : World} {k : Nat} {A B : Obj} {v : Value} (h : (cur.heap[k]? = some A ∧ cur.heap[k + 1]? = some B) ∧ cur.cell? ⟨k, 1, none⟩ = some v ∧ Below w.heap.size w cur) (hb : Below cur.heap.size cur w') :
    (w'.heap[k]? = some A ∧ w'.heap[k + 1]? = some B) ∧ w'.cell? ⟨k, 1, none⟩ = some v ∧ Below w.heap.size w w' := by
  obtain ⟨⟨a, b⟩, c, d⟩ := h
  exact ⟨⟨blk_below a hb (blk_lt a), blk_below b hb (blk_lt b)⟩, (hb.cell (p := ⟨k, 1, none⟩) (blk_lt a)).trans c, d.trans (hb.mono d.size)⟩
theorem sg_stepN {w cur : World} {k : Nat} {A B : Obj} {v : Value} (h : (cur.heap[k]? = some A ∧ cur.heap[k + 1]? = some B) ∧ cur.cell? ⟨k, 1, none⟩ = some v ∧ Below w.heap.size w cur) (j : Nat) :
    ((cur.drewN j).heap[k]? = some A ∧ (cur.drewN j).heap[k + 1]? = some B) ∧ (cur.drewN j).cell? ⟨k, 1, none⟩ = some v ∧ Below w.heap.size w (cur.drewN j) := by
  obtain ⟨⟨a, b⟩, c, d⟩ := h
  exact ⟨⟨a, b⟩, c, below_drewN d⟩
set_option maxRecDepth 100000 in
set_option maxHeartbeats 4000000 in
theorem sign_yes (x : Nat) (c m : ByteArray) (w : World) (h1 : 1 ≤ x) (h2 : x < 1152921504606845789) (hc : c.size ≤ 2000) (hm : m.size ≤ 2000) (hg : Glob w) (hml : MLen w) :
    Calls Tryz.prog 42 #[.agg #[.int .i64 x, .int .i64 (pubN x : Nat)], .string c, .string m] w fun e w' => e = .returned (.agg #[.int .i64 (sgE x c.data.toList m.data.toList : Nat), .int .i64 (sgS x c.data.toList m.data.toList : Nat)]) ∧ Below w.heap.size w w' := by
  obtain ⟨p, hp⟩ : ∃ p : Nat, p = pubN x := ⟨_, rfl⟩
  obtain ⟨n, hn⟩ : ∃ n, n = nonceN x c.data.toList m.data.toList := ⟨_, rfl⟩
  obtain ⟨r, hr⟩ : ∃ r, r = 4 ^ n % gP := ⟨_, rfl⟩
  obtain ⟨y, hy⟩ : ∃ y, y = sgE x c.data.toList m.data.toList := ⟨_, rfl⟩
  obtain ⟨s, hs⟩ : ∃ s, s = sgS x c.data.toList m.data.toList := ⟨_, rfl⟩
  have hnb := nonceN_bd x c.data.toList m.data.toList
  rw [← hn] at hnb
  have hyb : y < 1152921504606845789 := by rw [hy]; exact chalN_lt _ _ _ _
  have hpl : p < 2305843009213691579 := by rw [hp]; exact lt_p _
  have hrl : r < 2305843009213691579 := by rw [hr]; exact lt_p _
  have HR : Hid (∀ w0, Calls Tryz.prog 76 #[.agg #[.int .i64 x, .int .i64 p]] w0 fun e w' => e = .returned (.bool true) ∧ Below w0.heap.size w0 w') := Lib.hid (fun w0 => by
    have h := right_yes x p w0 h1 h2
    rw [decide_eq_true (by rw [hp] : (p : Int) = (pubN x : Nat))] at h
    exact h)
  have HN : Hid (∀ w0, Glob w0 → MLen w0 → Calls Tryz.prog 77 #[.int .i64 x, .string c, .string m] w0 fun e w' => e = .returned (.int .i64 (n : Nat)) ∧ Below w0.heap.size w0 w') := Lib.hid (fun w0 a b => by
    rw [hn]; exact nonce_any x c m w0 ⟨by omega, by omega⟩ hc (Nat.le_trans hm (by decide)) a b)
  have HE : Hid (∀ w0, Calls Tryz.prog 72 #[.int .i64 4, .int .i64 n] w0 fun e w' => e = .returned (.int .i64 (r : Nat)) ∧ ∃ k, w' = w0.drewN k) := Lib.hid (fun w0 => by
    have h := exp_any 4 n w0 ⟨by omega, by omega⟩ ⟨by omega, by omega⟩
    rw [res4, Int.toNat_natCast, ← hr] at h
    exact h)
  have HC : Hid (∀ w0, Glob w0 → MLen w0 → Calls Tryz.prog 78 #[.int .i64 (r : Nat), .int .i64 p, .string c, .string m] w0 fun e w' => e = .returned (.int .i64 (y : Nat)) ∧ Below w0.heap.size w0 w') := Lib.hid (fun w0 a b => by
    have h := chal_any r p c m w0 ⟨by omega, by omega⟩ ⟨by omega, by omega⟩ hc (Nat.le_trans hm (by decide)) a b
    have e : chalN (r : Nat) (p : Nat) c.data.toList m.data.toList = y := by rw [hy, hr, hp, hn]; rfl
    rw [e] at h
    exact h)
  have HQ : Hid (∀ w0, Calls Tryz.prog 80 #[.int .i64 y, .int .i64 x] w0 fun e w' => e = .returned (.int .i64 (mulN y x gQ : Nat)) ∧ ∃ k, w' = w0.drewN k) := Lib.hid (fun w0 => mulQ_any y x w0 ⟨by omega, by omega⟩ ⟨by omega, by omega⟩)
  have hzb : mulN (y : Int) (x : Int) gQ < 1152921504606845789 := mulN_lt _ _ (by decide)
  have HA : Hid (∀ w0, Calls Tryz.prog 79 #[.int .i64 n, .int .i64 (mulN y x gQ : Nat)] w0 fun e w' => e = .returned (.int .i64 (s : Nat)) ∧ w' = w0) := Lib.hid (fun w0 => by
    have h := addQ_any n (mulN y x gQ : Nat) w0 ⟨by omega, by omega⟩ ⟨by omega, by omega⟩
    have e : (n + y * x) % gQ = s := by rw [hs, hy, hn]; rfl
    rw [sum_q (by show n < 1152921504606845789; omega) hyb h2, e] at h
    exact h)
  generalize mulN (y : Int) (x : Int) gQ = z at *
  rw [← hp, ← hy, ← hs]
  have HK0 := Lib.hid (heap_alloc_new w (.cells #[.int .i64 x, .int .i64 p] 48))
  have HB0 := Lib.hid ((Below.refl w.heap.size w).alloc (Nat.le_refl _) (.cells #[.int .i64 x, .int .i64 p] 48))
  have HG := Lib.hid hg
  have HM := Lib.hid hml
  clear hp hn hr hy hs hnb hyb hpl hrl h1 h2 hc hm hg hml hzb
  go_enter Tryz.func42, Tryz.ntmps42
  go_upto_region 1 with fail
  have hR0 := heap_alloc_new (w.alloc (.cells #[.int .i64 x, .int .i64 p] 48)) (.cells #[.int .i64 0, .int .i64 0] 41)
  have hK1 : ((w.alloc (.cells #[.int .i64 x, .int .i64 p] 48)).alloc (.cells #[.int .i64 0, .int .i64 0] 41)).heap[w.heap.size]? = some (.cells #[.int .i64 x, .int .i64 p] 48) := blk_below HK0.out ((Below.refl _ _).alloc (Nat.le_refl _) _) (blk_lt HK0.out)
  have hs1 : (w.alloc (.cells #[.int .i64 x, .int .i64 p] 48)).heap.size = w.heap.size + 1 := World.size_alloc _ _
  have HB1 := Lib.hid (HB0.out.alloc HB0.out.size (.cells #[.int .i64 0, .int .i64 0] 41))
  rw [hs1] at hR0
  have HR0 := Lib.hid hR0
  have HK1 := Lib.hid hK1
  clear hR0 hK1 hs1 HK0 HB0
  generalize (w.alloc (.cells #[.int .i64 x, .int .i64 p] 48)).alloc (.cells #[.int .i64 0, .int .i64 0] 41) = w2 at *
  obtain ⟨k0, k1⟩ : w2.cell? ⟨w.heap.size, 0, none⟩ = some (.int .i64 x) ∧ w2.cell? ⟨w.heap.size, 1, none⟩ = some (.int .i64 p) := ⟨(cell_of_row _ _ _ _ _ _ HK1.out).trans rfl, (cell_of_row _ _ _ _ _ _ HK1.out).trans rfl⟩
  go_wp2_with fail
  refine (HR.out _).mono ?_
  rintro e w3 ⟨rfl, hb⟩
  have HB3 := Lib.hid (HB1.out.trans (hb.mono HB1.out.size))
  have HK3 := Lib.hid (blk_below HK1.out hb (blk_lt HK1.out))
  have HR3 := Lib.hid (blk_below HR0.out hb (blk_lt HR0.out))
  clear hb k0 k1 HB1 HK1 HR0
  obtain ⟨k0, k1⟩ : w3.cell? ⟨w.heap.size, 0, none⟩ = some (.int .i64 x) ∧ w3.cell? ⟨w.heap.size, 1, none⟩ = some (.int .i64 p) := ⟨(cell_of_row _ _ _ _ _ _ HK3.out).trans rfl, (cell_of_row _ _ _ _ _ _ HK3.out).trans rfl⟩
  go_wp2_with fail
  refine (HN.out _ (HG.out.below HB3.out HG.out.size) (HM.out.up HB3.out)).mono ?_
  rintro e w4 ⟨rfl, hb⟩
  have HB4 := Lib.hid (HB3.out.trans (hb.mono HB3.out.size))
  have HK4 := Lib.hid (blk_below HK3.out hb (blk_lt HK3.out))
  have HR4 := Lib.hid (blk_below HR3.out hb (blk_lt HR3.out))
  clear hb k0 k1 HB3 HK3 HR3
  go_upto_region 4 with fail
  have HS0 : Hid ((w4.heap[w.heap.size]? = some (.cells #[.int .i64 x, .int .i64 p] 48) ∧ w4.heap[w.heap.size + 1]? = some (.cells #[.int .i64 0, .int .i64 0] 41)) ∧ w4.cell? ⟨w.heap.size, 1, none⟩ = some (.int .i64 p) ∧ Below w.heap.size w w4) := Lib.hid
    ⟨⟨HK4.out, HR4.out⟩, (cell_of_row _ _ _ _ _ _ HK4.out).trans rfl, HB4.out⟩
  clear HK4 HR4 HB4
  go_region_held3 (fun w' => (w'.heap[w.heap.size]? = some (.cells #[.int .i64 x, .int .i64 p] 48) ∧ w'.heap[w.heap.size + 1]? = some (.cells #[.int .i64 0, .int .i64 0] 41)) ∧ w'.cell? ⟨w.heap.size, 1, none⟩ = some (.int .i64 p) ∧ Below w.heap.size w w') (first | assumption | exact HS0.out | exact sg_step (by assumption) hb | exact sg_stepN (by assumption) _) ((first | (go_at_call 72; refine (HE.out _).mono ?_; rintro e w' ⟨rfl, k, rfl⟩) | (go_at_call 78; refine (HC.out _ (HG.out.below (show _ ∧ _ ∧ Below w.heap.size w _ by assumption).2.2 HG.out.size) (HM.out.up (show _ ∧ _ ∧ Below w.heap.size w _ by assumption).2.2)).mono ?_; rintro e w' ⟨rfl, hb⟩)))
  rename_i w' hFin
  obtain ⟨⟨hk, hr⟩, -, hbw⟩ := hFin
  clear hb
  have HK5 := Lib.hid hk
  have HR5 := Lib.hid hr
  have HB5 := Lib.hid hbw
  clear hk hr hbw
  have k0 : w'.cell? ⟨w.heap.size, 0, none⟩ = some (.int .i64 x) := (cell_of_row _ _ _ _ _ _ HK5.out).trans rfl
  go_wp2_with fail
  refine (HQ.out _).mono ?_
  rintro e w6 ⟨rfl, k6, rfl⟩
  have HB6 := Lib.hid (below_drewN (n := k6) HB5.out)
  have HR6 : Hid ((w'.drewN k6).heap[w.heap.size + 1]? = some (.cells #[.int .i64 0, .int .i64 0] 41)) := Lib.hid HR5.out
  generalize w'.drewN k6 = w6 at *
  go_wp2_with fail
  refine (HA.out _).mono ?_
  rintro e w7 ⟨rfl, rfl⟩
  obtain ⟨r0, r1⟩ : w7.cell? ⟨w.heap.size + 1, 0, none⟩ = some (.int .i64 0) ∧ w7.cell? ⟨w.heap.size + 1, 1, none⟩ = some (.int .i64 0) := ⟨(cell_of_row _ _ _ _ _ _ HR6.out).trans rfl, (cell_of_row _ _ _ _ _ _ HR6.out).trans rfl⟩
  have f0 : ∀ j, w7.frozen? ⟨w.heap.size + 1, j, none⟩ = false := fun j => frozen_of_row _ _ _ _ _ HR6.out
  go_wp2_with fail
  refine bodyPost_ret (v := .agg #[.int .i64 y, .int .i64 s]) (results_cell_row rfl _ _ _ 41 _ (0, 0) _ rfl (two_set HR6.out) undSig rfl infoSig) rfl ⟨rfl, ?_⟩
  exact (HB6.out.setCell (Nat.le_succ _) _).setCell (Nat.le_succ _) _
set_option maxRecDepth 100000 in
set_option maxHeartbeats 4000000 in
theorem sign_no (x p : Int) (c m : ByteArray) (w : World) (h : ¬ RightK x p) :
    Calls Tryz.prog 42 #[.agg #[.int .i64 x, .int .i64 p], .string c, .string m] w fun e w' => e = .returned (.agg #[.int .i64 0, .int .i64 0]) ∧ Below w.heap.size w w' := by
  have HR : Hid (∀ w0, Calls Tryz.prog 76 #[.agg #[.int .i64 x, .int .i64 p]] w0 fun e w' => e = .returned (.bool false) ∧ Below w0.heap.size w0 w') := Lib.hid (fun w0 => by
    have h2 := rightK_any x p w0
    rw [decide_eq_false h] at h2
    exact h2)
  have HK0 := Lib.hid (heap_alloc_new w (.cells #[.int .i64 x, .int .i64 p] 48))
  have HB0 := Lib.hid ((Below.refl w.heap.size w).alloc (Nat.le_refl _) (.cells #[.int .i64 x, .int .i64 p] 48))
  clear h
  go_enter Tryz.func42, Tryz.ntmps42
  go_upto_region 1 with fail
  have hR0 := heap_alloc_new (w.alloc (.cells #[.int .i64 x, .int .i64 p] 48)) (.cells #[.int .i64 0, .int .i64 0] 41)
  have hK1 : ((w.alloc (.cells #[.int .i64 x, .int .i64 p] 48)).alloc (.cells #[.int .i64 0, .int .i64 0] 41)).heap[w.heap.size]? = some (.cells #[.int .i64 x, .int .i64 p] 48) := blk_below HK0.out ((Below.refl _ _).alloc (Nat.le_refl _) _) (blk_lt HK0.out)
  have hs1 : (w.alloc (.cells #[.int .i64 x, .int .i64 p] 48)).heap.size = w.heap.size + 1 := World.size_alloc _ _
  have HB1 := Lib.hid (HB0.out.alloc HB0.out.size (.cells #[.int .i64 0, .int .i64 0] 41))
  rw [hs1] at hR0
  have HR0 := Lib.hid hR0
  have HK1 := Lib.hid hK1
  clear hR0 hK1 hs1 HK0 HB0
  generalize (w.alloc (.cells #[.int .i64 x, .int .i64 p] 48)).alloc (.cells #[.int .i64 0, .int .i64 0] 41) = w2 at *
  obtain ⟨k0, k1⟩ : w2.cell? ⟨w.heap.size, 0, none⟩ = some (.int .i64 x) ∧ w2.cell? ⟨w.heap.size, 1, none⟩ = some (.int .i64 p) := ⟨(cell_of_row _ _ _ _ _ _ HK1.out).trans rfl, (cell_of_row _ _ _ _ _ _ HK1.out).trans rfl⟩
  go_wp2_with fail
  refine (HR.out _).mono ?_
  rintro e w3 ⟨rfl, hb⟩
  have HB3 := Lib.hid (HB1.out.trans (hb.mono HB1.out.size))
  have HR6 := Lib.hid (blk_below HR0.out hb (blk_lt HR0.out))
  clear hb k0 k1 HB1 HK1 HR0
  obtain ⟨r0, r1⟩ : w3.cell? ⟨w.heap.size + 1, 0, none⟩ = some (.int .i64 0) ∧ w3.cell? ⟨w.heap.size + 1, 1, none⟩ = some (.int .i64 0) := ⟨(cell_of_row _ _ _ _ _ _ HR6.out).trans rfl, (cell_of_row _ _ _ _ _ _ HR6.out).trans rfl⟩
  have f0 : ∀ j, w3.frozen? ⟨w.heap.size + 1, j, none⟩ = false := fun j => frozen_of_row _ _ _ _ _ HR6.out
  go_wp2_with fail
  refine bodyPost_ret (v := .agg #[.int .i64 0, .int .i64 0]) (results_cell_row rfl _ _ _ 41 _ (0, 0) _ rfl (two_set HR6.out) undSig rfl infoSig) rfl ⟨rfl, ?_⟩
  exact (HB3.out.setCell (Nat.le_succ _) _).setCell (Nat.le_succ _) _
/-- the signature, whatever the key -/
def signR (x p : Int) (c m : List UInt8) : Int × Int := if RightK x p then ((sgE x.toNat c m : Nat), (sgS x.toNat c m : Nat)) else (0, 0)
theorem sign_any (x p : Int) (c m : ByteArray) (w : World) (hc : c.size ≤ 2000) (hm : m.size ≤ 2000) (hg : Glob w) (hml : MLen w) :
    Calls Tryz.prog 42 #[.agg #[.int .i64 x, .int .i64 p], .string c, .string m] w fun e w' => e = .returned (.agg #[.int .i64 (signR x p c.data.toList m.data.toList).1, .int .i64 (signR x p c.data.toList m.data.toList).2]) ∧ Below w.heap.size w w' := by
  unfold signR
  by_cases h : RightK x p
  · rw [if_pos h]
    obtain ⟨n, rfl⟩ : ∃ n : Nat, x = n := ⟨x.toNat, by have := h.1; omega⟩
    have h2 : p = (pubN n : Nat) := h.2.2
    rw [h2]
    exact sign_yes n c m w (by have := h.1; omega) (by have := h.2.1; omega) hc hm hg hml
  · rw [if_neg h]
    exact sign_no x p c m w h
end Go.Proofs.YtepidpegoihllaaGreatDoor
/- Package sign: plain laws of signatures. -/
namespace Go.Proofs.YtepidpegoihllaaGreatDoor
open Go.RowKit
theorem pub_lt (x : Nat) : pubN x < 2305843009213691579 := lt_p _
theorem pub_in (x : Nat) : InG ((pubN x : Nat) : Int) := by
  have h := four_in x
  have h1 := in_pos h
  have h2 := pub_lt x
  refine ⟨?_, by omega, ?_⟩
  · have h3 : 1 ≤ pubN x := h1
    omega
  · rw [Int.toNat_natCast]
    exact h
theorem pub_ne {x : Nat} (h1 : 1 ≤ x) (h2 : x < 1152921504606845789) : ((pubN x : Nat) : Int) ≠ 1 := by
  have h := four_ne (x := x) h1 h2
  have h3 : pubN x ≠ 1 := h
  omega
theorem sgE_lt (x : Nat) (c m : List UInt8) : sgE x c m < 1152921504606845789 := chalN_lt _ _ _ _
theorem sgS_lt (x : Nat) (c m : List UInt8) : sgS x c m < 1152921504606845789 := Nat.mod_lt _ (by decide)
/-- what a right signature stands for -/
theorem sg_elem (x : Nat) (c m : List UInt8) : elemN (pubN x : Nat) (sgE x c m : Nat) (sgS x c m : Nat) = 4 ^ nonceN x c m % gP := by
  unfold elemN
  rw [Int.toNat_natCast, Int.toNat_natCast, Int.toNat_natCast]
  exact element_is x (nonceN x c m) (sgE x c m) (Nat.le_of_lt (sgE_lt x c m))
theorem ver_sig {x : Nat} (h1 : 1 ≤ x) (h2 : x < 1152921504606845789) (c m c2 m2 : List UInt8) :
    VerOk (pubN x : Nat) (sgE x c m : Nat) (sgS x c m : Nat) c2 m2 ↔ chalN (4 ^ nonceN x c m % gP : Nat) (pubN x : Nat) c2 m2 = sgE x c m := by
  have hE := sgE_lt x c m
  have hS := sgS_lt x c m
  unfold VerOk
  rw [sg_elem]
  constructor
  · intro h
    have := h.2.2.2.2
    omega
  · intro h
    refine ⟨pub_ne h1 h2, pub_in x, ⟨by omega, by omega⟩, ⟨by omega, by omega⟩, by omega⟩
theorem ver_same {x : Nat} (h1 : 1 ≤ x) (h2 : x < 1152921504606845789) (c m : List UInt8) :
    VerOk (pubN x : Nat) (sgE x c m : Nat) (sgS x c m : Nat) c m := (ver_sig h1 h2 c m c m).2 rfl
/- known answers -/
end Go.Proofs.YtepidpegoihllaaGreatDoor
/- claim.ints, promiseCore, Core. -/
namespace Go.Proofs.YtepidpegoihllaaGreatDoor
open Go.RowKit
theorem catL (a b : List UInt8) : (⟨a.toArray⟩ : ByteArray) ++ ⟨b.toArray⟩ = ⟨(a ++ b).toArray⟩ := by
  apply ByteArray.ext
  apply Array.ext'
  simp
theorem ints_len (xs : List Int) (h : ∀ x ∈ xs, I64 x) : (xs.flatMap intL).length ≤ 9 * xs.length := by
  induction xs with
  | nil => simp
  | cons x r ih =>
    have h1 := (intL_len (h x (by simp))).2
    have h2 := ih (fun y hy => h y (by simp [hy]))
    simp only [List.flatMap_cons, List.length_append, List.length_cons]
    omega
set_option maxRecDepth 100000 in
set_option maxHeartbeats 1000000 in
theorem ints_any (bk : Nat) (xs : List Int) (w : World) (hx : ∀ x ∈ xs, I64 x) (hcells : ∀ (j : Nat) x, xs[j]? = some x → w.cell? ⟨bk, 0 + j, none⟩ = some (.int .i64 x)) (hbk : bk < w.heap.size) (hN : xs.length ≤ 100) :
    Calls Tryz.prog 48 #[.slice (some ⟨bk, 0, none⟩) xs.length xs.length] w fun e w' => e = .returned (.string ⟨(xs.flatMap intL).toArray⟩) ∧ Below w.heap.size w w' := by
  have HX := Lib.hid hx
  have HC := Lib.hid hcells
  have HK := Lib.hid hbk
  clear hx hcells hbk
  go_enter Tryz.func48, Tryz.ntmps48
  go_wp2_with fail
  go_loopw [3, 8] (fun sv iv wr => ∃ k : Nat, k ≤ xs.length ∧ iv = .int .i64 k ∧ sv = .string ⟨((xs.take k).flatMap intL).toArray⟩ ∧ Below w.heap.size w wr) (fun _ iv _ => xs.length - (Go.RowKit.intOf iv).toNat)
  case atStart => exact ⟨0, by omega, rfl, rfl, Below.refl _ _⟩
  case round =>
    obtain ⟨k, hk, rfl, rfl, hb⟩ := hrel
    have HB := Lib.hid hb
    clear hb
    by_cases hlt : k < xs.length
    · have H1 : Hid (xs[k]? = some xs[k]) := Lib.hid (List.getElem?_eq_getElem hlt)
      have hc : wr.cell? ⟨bk, k, none⟩ = some (.int .i64 xs[k]) := by
        have h := (HB.out.cell (p := ⟨bk, 0 + k, none⟩) HK.out).trans (HC.out k _ H1.out)
        rw [Nat.zero_add] at h
        exact h
      have HI : Hid (I64 xs[k]) := Lib.hid (HX.out _ (List.getElem_mem hlt))
      obtain ⟨A, hA⟩ : ∃ A : ByteArray, A = ⟨((xs.take k).flatMap intL).toArray⟩ := ⟨_, rfl⟩
      obtain ⟨B, hB⟩ : ∃ B : ByteArray, B = ⟨(intL xs[k]).toArray⟩ := ⟨_, rfl⟩
      have hAs : A.size ≤ 900 := by
        have h := ints_len (xs.take k) (fun x hx => HX.out x (List.mem_of_mem_take hx))
        have h2 : A.data.toList.length ≤ 900 := by rw [hA]; show ((xs.take k).flatMap intL).length ≤ 900; rw [List.length_take] at h; omega
        exact h2
      have hBs : B.size ≤ 9 := by
        have h := (intL_len HI.out).2
        have h2 : B.data.toList.length ≤ 9 := by rw [hB]; exact h
        exact h2
      have HAB : Hid (A ++ B = ⟨((xs.take (k + 1)).flatMap intL).toArray⟩) := Lib.hid (by
        have e : (xs.take (k + 1)).flatMap intL = (xs.take k).flatMap intL ++ intL xs[k] := by
          rw [List.take_add_one, H1.out, List.flatMap_append, Option.toList_some, List.flatMap_singleton]
        rw [e, hA, hB, catL])
      have HBe := Lib.hid hB
      rw [← hA]
      have hn : ¬ 9223372036854775807 < A.size + B.size := by omega
      clear hA hB
      generalize xs[k] = x at *
      go_wp2_with fail
      refine (int_any x _ HI.out).mono ?_
      rintro e w2 ⟨rfl, hb⟩
      rw [← HBe.out]
      have HB2 := Lib.hid (HB.out.trans (hb.mono HB.out.size))
      clear hb
      go_wp2_with fail
      go_roundw
      case rel => exact ⟨k + 1, by omega, by go_num, by rw [HAB.out], HB2.out⟩
      case measure => simp [Go.RowKit.intOf]; omega
    · obtain rfl : k = xs.length := by omega
      have HE : Hid ((⟨((xs.take xs.length).flatMap intL).toArray⟩ : ByteArray) = ⟨(xs.flatMap intL).toArray⟩) := Lib.hid (by rw [List.take_length])
      go_wp2_with fail
      go_ret
      exact ⟨by rw [← HE.out]; rfl, HB.out⟩
theorem ints_row (bk : Nat) (xs : List Int) (w : World) (hx : ∀ x ∈ xs, I64 x) {t : TypeId} (hr : w.heap[bk]? = some (.cells (xs.map (Value.int .i64)).toArray t)) (hN : xs.length ≤ 100) :
    Calls Tryz.prog 48 #[.slice (some ⟨bk, 0, none⟩) xs.length xs.length] w fun e w' => e = .returned (.string ⟨(xs.flatMap intL).toArray⟩) ∧ Below w.heap.size w w' :=
  ints_any bk xs w hx (fun j x hj => by
    rw [Nat.zero_add]
    have h := cell_of_row _ _ j _ _ _ hr
    rw [← Array.getElem?_toList] at h
    have h2 : (xs.map (Value.int .i64))[j]? = some (.int .i64 x) := by rw [List.getElem?_map, hj]; rfl
    exact h.trans h2) (blk_lt hr) hN
end Go.Proofs.YtepidpegoihllaaGreatDoor
