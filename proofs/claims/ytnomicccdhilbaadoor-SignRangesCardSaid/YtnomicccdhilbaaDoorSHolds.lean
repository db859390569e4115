/- bournelaw05.SignHolds returns true. -/
import Derived.Test.YtnomicccdhilbaaDoorSSmall
import Derived.Outline
namespace Go.Proofs.YtnomicccdhilbaaDoor
open Go.RowKit
structure HoldFacts (seed c m : ByteArray) (sec k p E S x y tE tS : Int) (rb : Bool) : Prop where
  key : ∀ w, Glob w → MLen w → Calls Tryd.prog 10 #[.string seed] w fun e w' => e = .returned (.agg #[.int .i64 k, .int .i64 p]) ∧ Below w.heap.size w w'
  of : ∀ w, Calls Tryd.prog 12 #[.int .i64 sec] w fun e w' => e = .returned (.agg #[.int .i64 x, .int .i64 y]) ∧ Below w.heap.size w w'
  rightA : ∀ w, Calls Tryd.prog 14 #[.agg #[.int .i64 k, .int .i64 p]] w fun e w' => e = .returned (.bool true) ∧ Below w.heap.size w w'
  rightB : ∀ w, Calls Tryd.prog 14 #[.agg #[.int .i64 x, .int .i64 y]] w fun e w' => e = .returned (.bool rb) ∧ Below w.heap.size w w'
  signA : ∀ w, Glob w → MLen w → Calls Tryd.prog 16 #[.agg #[.int .i64 k, .int .i64 p], .string c, .string m] w fun e w' => e = .returned (.agg #[.int .i64 E, .int .i64 S]) ∧ Below w.heap.size w w'
  verA : ∀ w, Glob w → MLen w → Calls Tryd.prog 18 #[.int .i64 p, .string c, .string m, .agg #[.int .i64 E, .int .i64 S]] w fun e w' => e = .returned (.bool true) ∧ Below w.heap.size w w'
  signB : ∀ w, Glob w → MLen w → Calls Tryd.prog 16 #[.agg #[.int .i64 x, .int .i64 y], .string c, .string m] w fun e w' => e = .returned (.agg #[.int .i64 tE, .int .i64 tS]) ∧ Below w.heap.size w w'
  verB : rb = true → ∀ w, Glob w → MLen w → Calls Tryd.prog 18 #[.int .i64 y, .string c, .string m, .agg #[.int .i64 tE, .int .i64 tS]] w fun e w' => e = .returned (.bool true) ∧ Below w.heap.size w w'
  zero : rb = false → tE = 0 ∧ tS = 0
  E0 : decide (E < 0) = false
  E1 : decide (1152921504606845789 ≤ E) = false
  S0 : decide (S < 0) = false
  S1 : decide (1152921504606845789 ≤ S) = false
theorem i64_pub (x : Nat) : I64 ((pubN x : Nat) : Int) := ⟨by have := (pub_in x).1; omega, by have := (pub_in x).2.1; omega⟩
theorem holdFacts (seed c m : ByteArray) (sec : Int) (h1 : seed.size ≤ 2000) (h2 : c.size ≤ 2000) (h3 : m.size ≤ 2000) :
    ∃ k p E S x y tE tS, HoldFacts seed c m sec k p E S x y tE tS (decide (1 ≤ sec ∧ sec < 1152921504606845789)) := by
  have hk := keyN_bd seed.data.toList
  have hv := ver_same hk.1 hk.2 c.data.toList m.data.toList
  have hE := sgE_lt (keyN seed.data.toList) c.data.toList m.data.toList
  have hS := sgS_lt (keyN seed.data.toList) c.data.toList m.data.toList
  have hR : ∀ w, Calls Tryd.prog 14 #[.agg #[.int .i64 (keyN seed.data.toList : Nat), .int .i64 (pubN (keyN seed.data.toList) : Nat)]] w fun e w' => e = .returned (.bool true) ∧ Below w.heap.size w w' := fun w => by
    have h := right_yes (keyN seed.data.toList) (pubN (keyN seed.data.toList) : Nat) w hk.1 hk.2
    rw [decide_eq_true rfl] at h
    exact h
  have hV : ∀ w, Glob w → MLen w → Calls Tryd.prog 18 #[.int .i64 (pubN (keyN seed.data.toList) : Nat), .string c, .string m, .agg #[.int .i64 (sgE (keyN seed.data.toList) c.data.toList m.data.toList : Nat), .int .i64 (sgS (keyN seed.data.toList) c.data.toList m.data.toList : Nat)]] w fun e w' => e = .returned (.bool true) ∧ Below w.heap.size w w' := fun w hg hm => by
    have h := verify_any (pubN (keyN seed.data.toList) : Nat) (sgE (keyN seed.data.toList) c.data.toList m.data.toList : Nat) (sgS (keyN seed.data.toList) c.data.toList m.data.toList : Nat) c m w (i64_pub _) h2 h3 hg hm
    rw [decide_eq_true hv] at h
    exact h
  by_cases hs : 1 ≤ sec ∧ sec < 1152921504606845789
  · obtain ⟨n, rfl⟩ : ∃ n : Nat, sec = n := ⟨sec.toNat, by omega⟩
    have n1 : 1 ≤ n := by omega
    have n2 : n < 1152921504606845789 := by omega
    have hv2 := ver_same n1 n2 c.data.toList m.data.toList
    rw [decide_eq_true hs]
    refine ⟨_, _, _, _, _, _, _, _, ⟨fun w hg hm => key_any seed w h1 hg hm, fun w => of_any n w n1 n2, hR, fun w => ?_, fun w hg hm => sign_yes _ c m w hk.1 hk.2 h2 h3 hg hm, hV, fun w hg hm => sign_yes n c m w n1 n2 h2 h3 hg hm, fun _ w hg hm => ?_, (fun h => by cases h), decide_eq_false (by omega), decide_eq_false (by omega), decide_eq_false (by omega), decide_eq_false (by omega)⟩⟩
    · have h := right_yes n (pubN n : Nat) w n1 n2
      rw [decide_eq_true rfl] at h
      exact h
    · have h := verify_any (pubN n : Nat) (sgE n c.data.toList m.data.toList : Nat) (sgS n c.data.toList m.data.toList : Nat) c m w (i64_pub _) h2 h3 hg hm
      rw [decide_eq_true hv2] at h
      exact h
  · rw [decide_eq_false hs]
    refine ⟨_, _, _, _, _, _, _, _, ⟨fun w hg hm => key_any seed w h1 hg hm, fun w => of_none sec w (by omega), hR, fun w => right_no 0 0 w (.inl (by decide)), fun w hg hm => sign_yes _ c m w hk.1 hk.2 h2 h3 hg hm, hV, fun w _ _ => sign_no 0 0 c m w (fun h => by have := h.1; omega), (fun h => by cases h), (fun _ => ⟨rfl, rfl⟩), decide_eq_false (by omega), decide_eq_false (by omega), decide_eq_false (by omega), decide_eq_false (by omega)⟩⟩
theorem hold_step {w cur w' : World} {k0 k1 k2 : Nat} {A0 A1 A2 : Obj} {v0 v1 v2 v3 : Value} (h : cur.heap[k0]? = some A0 ∧ cur.heap[k1]? = some A1 ∧ cur.heap[k2]? = some A2 ∧ cur.cell? ⟨k0, 0, none⟩ = some v0 ∧ cur.cell? ⟨k0, 1, none⟩ = some v1 ∧ cur.cell? ⟨k2, 0, none⟩ = some v2 ∧ cur.cell? ⟨k2, 1, none⟩ = some v3 ∧ Below w.heap.size w cur) (hb : Below cur.heap.size cur w') : w'.heap[k0]? = some A0 ∧ w'.heap[k1]? = some A1 ∧ w'.heap[k2]? = some A2 ∧ w'.cell? ⟨k0, 0, none⟩ = some v0 ∧ w'.cell? ⟨k0, 1, none⟩ = some v1 ∧ w'.cell? ⟨k2, 0, none⟩ = some v2 ∧ w'.cell? ⟨k2, 1, none⟩ = some v3 ∧ Below w.heap.size w w' := by
  obtain ⟨a0, a1, a2, c0, c1, c2, c3, d⟩ := h
  exact ⟨blk_below a0 hb (blk_lt a0), blk_below a1 hb (blk_lt a1), blk_below a2 hb (blk_lt a2), (hb.cell (p := ⟨_, 0, none⟩) (blk_lt a0)).trans c0, (hb.cell (p := ⟨_, 1, none⟩) (blk_lt a0)).trans c1, (hb.cell (p := ⟨_, 0, none⟩) (blk_lt a2)).trans c2, (hb.cell (p := ⟨_, 1, none⟩) (blk_lt a2)).trans c3, d.trans (hb.mono d.size)⟩
theorem hold_stepN {w cur : World} {k0 k1 k2 : Nat} {A0 A1 A2 : Obj} {v0 v1 v2 v3 : Value} (h : cur.heap[k0]? = some A0 ∧ cur.heap[k1]? = some A1 ∧ cur.heap[k2]? = some A2 ∧ cur.cell? ⟨k0, 0, none⟩ = some v0 ∧ cur.cell? ⟨k0, 1, none⟩ = some v1 ∧ cur.cell? ⟨k2, 0, none⟩ = some v2 ∧ cur.cell? ⟨k2, 1, none⟩ = some v3 ∧ Below w.heap.size w cur) (n : Nat) : (cur.drewN n).heap[k0]? = some A0 ∧ (cur.drewN n).heap[k1]? = some A1 ∧ (cur.drewN n).heap[k2]? = some A2 ∧ (cur.drewN n).cell? ⟨k0, 0, none⟩ = some v0 ∧ (cur.drewN n).cell? ⟨k0, 1, none⟩ = some v1 ∧ (cur.drewN n).cell? ⟨k2, 0, none⟩ = some v2 ∧ (cur.drewN n).cell? ⟨k2, 1, none⟩ = some v3 ∧ Below w.heap.size w (cur.drewN n) := by
  obtain ⟨a0, a1, a2, c0, c1, c2, c3, d⟩ := h
  exact ⟨a0, a1, a2, c0, c1, c2, c3, below_drewN d⟩
set_option maxRecDepth 100000 in
set_option maxHeartbeats 8000000 in
theorem holds_core (seed c m : ByteArray) (sec : Int) (w : World) (hg : Glob w) (hml : MLen w) (hs : seed.size + c.size + m.size ≤ 4611686018427387904) :
    Calls Tryd.prog 4 #[.string seed, .int .i64 sec, .string c, .string m] w fun e w' => e = .returned (.bool true) ∧ Below w.heap.size w w' := by
  have HG := Lib.hid hg
  have HM := Lib.hid hml
  have HSh : Hid (∀ w0, Calls Tryd.prog 9 #[.string seed, .string c, .string m] w0 fun e w' => e = .returned (.bool (decide (seed.size + c.size + m.size ≤ 2000))) ∧ w' = w0) := Lib.hid (fun w0 => shorts_any seed c m w0 hs)
  clear hg hml hs
  by_cases hs : seed.size + c.size + m.size ≤ 2000
  · obtain ⟨k, p, E, S, x, y, tE, tS, hF⟩ := holdFacts seed c m sec (by omega) (by omega) (by omega)
    have HF := Lib.hid hF
    rw [decide_eq_true hs] at HSh
    clear hF hs
    have heqA := eqS E S E S
    rw [decide_eq_true ⟨rfl, rfl⟩] at heqA
    have e0 := HF.out.E0
    have e1 := HF.out.E1
    have s0 := HF.out.S0
    have s1 := HF.out.S1
    by_cases hsec : 1 ≤ sec ∧ sec < 1152921504606845789
    · rw [decide_eq_true hsec] at HF
      have d1 : decide (1 ≤ sec) = true := decide_eq_true hsec.1
      have d2 : decide (sec < 1152921504606845789) = true := decide_eq_true hsec.2
      clear hsec
      go_enter Tryd.func4, Tryd.ntmps4
      go_wp2_with fail
      refine (small_any _ HG.out HM.out).mono ?_
      rintro e w1 ⟨rfl, hb⟩
      have HB1 := Lib.hid hb
      clear hb
      go_wp2_with fail
      refine (HSh.out _).mono ?_
      rintro e wq ⟨rfl, rfl⟩
      go_wp2_with fail
      refine (HF.out.key _ (HG.out.below HB1.out HG.out.size) (HM.out.up HB1.out)).mono ?_
      rintro e w2 ⟨rfl, hb⟩
      have HB2 := Lib.hid (HB1.out.trans (hb.mono HB1.out.size))
      clear HB1
      clear hb
      go_upto_region 6 with fail
      have HB3 := Lib.hid (HB2.out.alloc HB2.out.size (.cells #[.int .i64 k, .int .i64 p] 23))
      have Kh3 := Lib.hid (heap_alloc_new w2 (.cells #[.int .i64 k, .int .i64 p] 23))
      clear HB2
      generalize w2.heap.size = bK at *
      generalize w2.alloc (.cells #[.int .i64 k, .int .i64 p] 23) = w3 at *
      have cK0 : w3.cell? ⟨bK, 0, none⟩ = some (.int .i64 k) := (cell_of_row _ _ _ _ _ _ Kh3.out).trans rfl
      have cK1 : w3.cell? ⟨bK, 1, none⟩ = some (.int .i64 p) := (cell_of_row _ _ _ _ _ _ Kh3.out).trans rfl
      go_wp2_with fail
      refine (HF.out.of _).mono ?_
      rintro e w4 ⟨rfl, hb⟩
      have HB4 := Lib.hid (HB3.out.trans (hb.mono HB3.out.size))
      have Kh4 := Lib.hid (blk_below Kh3.out hb (blk_lt Kh3.out))
      clear cK0 cK1
      clear HB3 Kh3
      clear hb
      have cK0 : w4.cell? ⟨bK, 0, none⟩ = some (.int .i64 k) := (cell_of_row _ _ _ _ _ _ Kh4.out).trans rfl
      have cK1 : w4.cell? ⟨bK, 1, none⟩ = some (.int .i64 p) := (cell_of_row _ _ _ _ _ _ Kh4.out).trans rfl
      go_upto_region 7 with fail
      have HB5 := Lib.hid (HB4.out.alloc HB4.out.size (.cells #[.int .i64 x, .int .i64 y] 23))
      have Bh5 := Lib.hid (heap_alloc_new w4 (.cells #[.int .i64 x, .int .i64 y] 23))
      have Kh5 := Lib.hid (blk_below Kh4.out ((Below.refl w4.heap.size w4).alloc (Nat.le_refl _) (.cells #[.int .i64 x, .int .i64 y] 23)) (blk_lt Kh4.out))
      clear cK0 cK1
      clear HB4 Kh4
      generalize w4.heap.size = bB at *
      generalize w4.alloc (.cells #[.int .i64 x, .int .i64 y] 23) = w5 at *
      have cK0 : w5.cell? ⟨bK, 0, none⟩ = some (.int .i64 k) := (cell_of_row _ _ _ _ _ _ Kh5.out).trans rfl
      have cK1 : w5.cell? ⟨bK, 1, none⟩ = some (.int .i64 p) := (cell_of_row _ _ _ _ _ _ Kh5.out).trans rfl
      have cB0 : w5.cell? ⟨bB, 0, none⟩ = some (.int .i64 x) := (cell_of_row _ _ _ _ _ _ Bh5.out).trans rfl
      have cB1 : w5.cell? ⟨bB, 1, none⟩ = some (.int .i64 y) := (cell_of_row _ _ _ _ _ _ Bh5.out).trans rfl
      go_wp2_with fail
      refine (HF.out.rightB _).mono ?_
      rintro e w6 ⟨rfl, hb⟩
      have HB6 := Lib.hid (HB5.out.trans (hb.mono HB5.out.size))
      have Kh6 := Lib.hid (blk_below Kh5.out hb (blk_lt Kh5.out))
      have Bh6 := Lib.hid (blk_below Bh5.out hb (blk_lt Bh5.out))
      clear cK0 cK1 cB0 cB1
      clear HB5 Kh5 Bh5
      clear hb
      have cK0 : w6.cell? ⟨bK, 0, none⟩ = some (.int .i64 k) := (cell_of_row _ _ _ _ _ _ Kh6.out).trans rfl
      have cK1 : w6.cell? ⟨bK, 1, none⟩ = some (.int .i64 p) := (cell_of_row _ _ _ _ _ _ Kh6.out).trans rfl
      have cB0 : w6.cell? ⟨bB, 0, none⟩ = some (.int .i64 x) := (cell_of_row _ _ _ _ _ _ Bh6.out).trans rfl
      have cB1 : w6.cell? ⟨bB, 1, none⟩ = some (.int .i64 y) := (cell_of_row _ _ _ _ _ _ Bh6.out).trans rfl
      go_wp2_with fail
      refine (HF.out.rightA _).mono ?_
      rintro e w7 ⟨rfl, hb⟩
      have HB7 := Lib.hid (HB6.out.trans (hb.mono HB6.out.size))
      have Kh7 := Lib.hid (blk_below Kh6.out hb (blk_lt Kh6.out))
      have Bh7 := Lib.hid (blk_below Bh6.out hb (blk_lt Bh6.out))
      clear cK0 cK1 cB0 cB1
      clear HB6 Kh6 Bh6
      clear hb
      have cK0 : w7.cell? ⟨bK, 0, none⟩ = some (.int .i64 k) := (cell_of_row _ _ _ _ _ _ Kh7.out).trans rfl
      have cK1 : w7.cell? ⟨bK, 1, none⟩ = some (.int .i64 p) := (cell_of_row _ _ _ _ _ _ Kh7.out).trans rfl
      have cB0 : w7.cell? ⟨bB, 0, none⟩ = some (.int .i64 x) := (cell_of_row _ _ _ _ _ _ Bh7.out).trans rfl
      have cB1 : w7.cell? ⟨bB, 1, none⟩ = some (.int .i64 y) := (cell_of_row _ _ _ _ _ _ Bh7.out).trans rfl
      go_wp2_with fail
      refine (HF.out.signA _ (HG.out.below HB7.out HG.out.size) (HM.out.up HB7.out)).mono ?_
      rintro e w8 ⟨rfl, hb⟩
      have HB8 := Lib.hid (HB7.out.trans (hb.mono HB7.out.size))
      have Kh8 := Lib.hid (blk_below Kh7.out hb (blk_lt Kh7.out))
      have Bh8 := Lib.hid (blk_below Bh7.out hb (blk_lt Bh7.out))
      clear cK0 cK1 cB0 cB1
      clear HB7 Kh7 Bh7
      clear hb
      have cK0 : w8.cell? ⟨bK, 0, none⟩ = some (.int .i64 k) := (cell_of_row _ _ _ _ _ _ Kh8.out).trans rfl
      have cK1 : w8.cell? ⟨bK, 1, none⟩ = some (.int .i64 p) := (cell_of_row _ _ _ _ _ _ Kh8.out).trans rfl
      have cB0 : w8.cell? ⟨bB, 0, none⟩ = some (.int .i64 x) := (cell_of_row _ _ _ _ _ _ Bh8.out).trans rfl
      have cB1 : w8.cell? ⟨bB, 1, none⟩ = some (.int .i64 y) := (cell_of_row _ _ _ _ _ _ Bh8.out).trans rfl
      go_upto_region 10 with fail
      have HB9 := Lib.hid (HB8.out.alloc HB8.out.size (.cells #[.int .i64 E, .int .i64 S] 25))
      have Sh9 := Lib.hid (heap_alloc_new w8 (.cells #[.int .i64 E, .int .i64 S] 25))
      have Kh9 := Lib.hid (blk_below Kh8.out ((Below.refl w8.heap.size w8).alloc (Nat.le_refl _) (.cells #[.int .i64 E, .int .i64 S] 25)) (blk_lt Kh8.out))
      have Bh9 := Lib.hid (blk_below Bh8.out ((Below.refl w8.heap.size w8).alloc (Nat.le_refl _) (.cells #[.int .i64 E, .int .i64 S] 25)) (blk_lt Bh8.out))
      clear cK0 cK1 cB0 cB1
      clear HB8 Kh8 Bh8
      generalize w8.heap.size = bS at *
      generalize w8.alloc (.cells #[.int .i64 E, .int .i64 S] 25) = w9 at *
      have cK0 : w9.cell? ⟨bK, 0, none⟩ = some (.int .i64 k) := (cell_of_row _ _ _ _ _ _ Kh9.out).trans rfl
      have cK1 : w9.cell? ⟨bK, 1, none⟩ = some (.int .i64 p) := (cell_of_row _ _ _ _ _ _ Kh9.out).trans rfl
      have cB0 : w9.cell? ⟨bB, 0, none⟩ = some (.int .i64 x) := (cell_of_row _ _ _ _ _ _ Bh9.out).trans rfl
      have cB1 : w9.cell? ⟨bB, 1, none⟩ = some (.int .i64 y) := (cell_of_row _ _ _ _ _ _ Bh9.out).trans rfl
      have cS0 : w9.cell? ⟨bS, 0, none⟩ = some (.int .i64 E) := (cell_of_row _ _ _ _ _ _ Sh9.out).trans rfl
      have cS1 : w9.cell? ⟨bS, 1, none⟩ = some (.int .i64 S) := (cell_of_row _ _ _ _ _ _ Sh9.out).trans rfl
      clear cK0 cK1 cB0 cB1 cS0 cS1
      have HS0 : Hid (w9.heap[bK]? = some (.cells #[.int .i64 k, .int .i64 p] 23) ∧ w9.heap[bB]? = some (.cells #[.int .i64 x, .int .i64 y] 23) ∧ w9.heap[bS]? = some (.cells #[.int .i64 E, .int .i64 S] 25) ∧ w9.cell? ⟨bK, 0, none⟩ = some (.int .i64 k) ∧ w9.cell? ⟨bK, 1, none⟩ = some (.int .i64 p) ∧ w9.cell? ⟨bS, 0, none⟩ = some (.int .i64 E) ∧ w9.cell? ⟨bS, 1, none⟩ = some (.int .i64 S) ∧ Below w.heap.size w w9) := Lib.hid ⟨Kh9.out, Bh9.out, Sh9.out, (cell_of_row _ _ _ _ _ _ Kh9.out).trans rfl, (cell_of_row _ _ _ _ _ _ Kh9.out).trans rfl, (cell_of_row _ _ _ _ _ _ Sh9.out).trans rfl, (cell_of_row _ _ _ _ _ _ Sh9.out).trans rfl, HB9.out⟩
      clear Kh9 Bh9 Sh9 HB9
      go_region_held3 (fun w' => w'.heap[bK]? = some (.cells #[.int .i64 k, .int .i64 p] 23) ∧ w'.heap[bB]? = some (.cells #[.int .i64 x, .int .i64 y] 23) ∧ w'.heap[bS]? = some (.cells #[.int .i64 E, .int .i64 S] 25) ∧ w'.cell? ⟨bK, 0, none⟩ = some (.int .i64 k) ∧ w'.cell? ⟨bK, 1, none⟩ = some (.int .i64 p) ∧ w'.cell? ⟨bS, 0, none⟩ = some (.int .i64 E) ∧ w'.cell? ⟨bS, 1, none⟩ = some (.int .i64 S) ∧ Below w.heap.size w w') (first | assumption | exact HS0.out | exact hold_step (by assumption) hb | exact hold_stepN (by assumption) _) ((first | (go_at_call 18; refine (HF.out.verA _ (HG.out.below (show _ ∧ _ ∧ _ ∧ _ ∧ _ ∧ _ ∧ _ ∧ Below w.heap.size w _ by assumption).2.2.2.2.2.2.2 HG.out.size) (HM.out.up (show _ ∧ _ ∧ _ ∧ _ ∧ _ ∧ _ ∧ _ ∧ Below w.heap.size w _ by assumption).2.2.2.2.2.2.2)).mono ?_; rintro e w' ⟨rfl, hb⟩) | (go_at_call 16; refine (HF.out.signA _ (HG.out.below (show _ ∧ _ ∧ _ ∧ _ ∧ _ ∧ _ ∧ _ ∧ Below w.heap.size w _ by assumption).2.2.2.2.2.2.2 HG.out.size) (HM.out.up (show _ ∧ _ ∧ _ ∧ _ ∧ _ ∧ _ ∧ _ ∧ Below w.heap.size w _ by assumption).2.2.2.2.2.2.2)).mono ?_; rintro e w' ⟨rfl, hb⟩)))
      rename World => w10
      rename _ ∧ _ => hFin
      obtain ⟨qK, qB, qS, -, -, -, -, qBel⟩ := hFin
      have Kh10 := Lib.hid qK
      have Bh10 := Lib.hid qB
      have Sh10 := Lib.hid qS
      have HB10 := Lib.hid qBel
      clear HS0 qBel qK qB qS
      have cK0 : w10.cell? ⟨bK, 0, none⟩ = some (.int .i64 k) := (cell_of_row _ _ _ _ _ _ Kh10.out).trans rfl
      have cK1 : w10.cell? ⟨bK, 1, none⟩ = some (.int .i64 p) := (cell_of_row _ _ _ _ _ _ Kh10.out).trans rfl
      have cB0 : w10.cell? ⟨bB, 0, none⟩ = some (.int .i64 x) := (cell_of_row _ _ _ _ _ _ Bh10.out).trans rfl
      have cB1 : w10.cell? ⟨bB, 1, none⟩ = some (.int .i64 y) := (cell_of_row _ _ _ _ _ _ Bh10.out).trans rfl
      have cS0 : w10.cell? ⟨bS, 0, none⟩ = some (.int .i64 E) := (cell_of_row _ _ _ _ _ _ Sh10.out).trans rfl
      have cS1 : w10.cell? ⟨bS, 1, none⟩ = some (.int .i64 S) := (cell_of_row _ _ _ _ _ _ Sh10.out).trans rfl
      go_wp2_with fail
      refine (HF.out.signB _ (HG.out.below HB10.out HG.out.size) (HM.out.up HB10.out)).mono ?_
      rintro e w11 ⟨rfl, hb⟩
      have HB11 := Lib.hid (HB10.out.trans (hb.mono HB10.out.size))
      have Kh11 := Lib.hid (blk_below Kh10.out hb (blk_lt Kh10.out))
      have Bh11 := Lib.hid (blk_below Bh10.out hb (blk_lt Bh10.out))
      have Sh11 := Lib.hid (blk_below Sh10.out hb (blk_lt Sh10.out))
      clear cK0 cK1 cB0 cB1 cS0 cS1
      clear HB10 Kh10 Bh10 Sh10
      clear hb
      have cK0 : w11.cell? ⟨bK, 0, none⟩ = some (.int .i64 k) := (cell_of_row _ _ _ _ _ _ Kh11.out).trans rfl
      have cK1 : w11.cell? ⟨bK, 1, none⟩ = some (.int .i64 p) := (cell_of_row _ _ _ _ _ _ Kh11.out).trans rfl
      have cB0 : w11.cell? ⟨bB, 0, none⟩ = some (.int .i64 x) := (cell_of_row _ _ _ _ _ _ Bh11.out).trans rfl
      have cB1 : w11.cell? ⟨bB, 1, none⟩ = some (.int .i64 y) := (cell_of_row _ _ _ _ _ _ Bh11.out).trans rfl
      have cS0 : w11.cell? ⟨bS, 0, none⟩ = some (.int .i64 E) := (cell_of_row _ _ _ _ _ _ Sh11.out).trans rfl
      have cS1 : w11.cell? ⟨bS, 1, none⟩ = some (.int .i64 S) := (cell_of_row _ _ _ _ _ _ Sh11.out).trans rfl
      go_upto_region 13 with fail
      have HB12 := Lib.hid (HB11.out.alloc HB11.out.size (.cells #[.int .i64 tE, .int .i64 tS] 25))
      have Th12 := Lib.hid (heap_alloc_new w11 (.cells #[.int .i64 tE, .int .i64 tS] 25))
      have Kh12 := Lib.hid (blk_below Kh11.out ((Below.refl w11.heap.size w11).alloc (Nat.le_refl _) (.cells #[.int .i64 tE, .int .i64 tS] 25)) (blk_lt Kh11.out))
      have Bh12 := Lib.hid (blk_below Bh11.out ((Below.refl w11.heap.size w11).alloc (Nat.le_refl _) (.cells #[.int .i64 tE, .int .i64 tS] 25)) (blk_lt Bh11.out))
      have Sh12 := Lib.hid (blk_below Sh11.out ((Below.refl w11.heap.size w11).alloc (Nat.le_refl _) (.cells #[.int .i64 tE, .int .i64 tS] 25)) (blk_lt Sh11.out))
      clear cK0 cK1 cB0 cB1 cS0 cS1
      clear HB11 Kh11 Bh11 Sh11
      generalize w11.heap.size = bT at *
      generalize w11.alloc (.cells #[.int .i64 tE, .int .i64 tS] 25) = w12 at *
      have cK0 : w12.cell? ⟨bK, 0, none⟩ = some (.int .i64 k) := (cell_of_row _ _ _ _ _ _ Kh12.out).trans rfl
      have cK1 : w12.cell? ⟨bK, 1, none⟩ = some (.int .i64 p) := (cell_of_row _ _ _ _ _ _ Kh12.out).trans rfl
      have cB0 : w12.cell? ⟨bB, 0, none⟩ = some (.int .i64 x) := (cell_of_row _ _ _ _ _ _ Bh12.out).trans rfl
      have cB1 : w12.cell? ⟨bB, 1, none⟩ = some (.int .i64 y) := (cell_of_row _ _ _ _ _ _ Bh12.out).trans rfl
      have cS0 : w12.cell? ⟨bS, 0, none⟩ = some (.int .i64 E) := (cell_of_row _ _ _ _ _ _ Sh12.out).trans rfl
      have cS1 : w12.cell? ⟨bS, 1, none⟩ = some (.int .i64 S) := (cell_of_row _ _ _ _ _ _ Sh12.out).trans rfl
      have cT0 : w12.cell? ⟨bT, 0, none⟩ = some (.int .i64 tE) := (cell_of_row _ _ _ _ _ _ Th12.out).trans rfl
      have cT1 : w12.cell? ⟨bT, 1, none⟩ = some (.int .i64 tS) := (cell_of_row _ _ _ _ _ _ Th12.out).trans rfl
      go_wp2_with fail
      refine (HF.out.rightB _).mono ?_
      rintro e w13 ⟨rfl, hb⟩
      have HB13 := Lib.hid (HB12.out.trans (hb.mono HB12.out.size))
      have Kh13 := Lib.hid (blk_below Kh12.out hb (blk_lt Kh12.out))
      have Bh13 := Lib.hid (blk_below Bh12.out hb (blk_lt Bh12.out))
      have Sh13 := Lib.hid (blk_below Sh12.out hb (blk_lt Sh12.out))
      have Th13 := Lib.hid (blk_below Th12.out hb (blk_lt Th12.out))
      clear cK0 cK1 cB0 cB1 cS0 cS1 cT0 cT1
      clear HB12 Kh12 Bh12 Sh12 Th12
      clear hb
      have cK0 : w13.cell? ⟨bK, 0, none⟩ = some (.int .i64 k) := (cell_of_row _ _ _ _ _ _ Kh13.out).trans rfl
      have cK1 : w13.cell? ⟨bK, 1, none⟩ = some (.int .i64 p) := (cell_of_row _ _ _ _ _ _ Kh13.out).trans rfl
      have cB0 : w13.cell? ⟨bB, 0, none⟩ = some (.int .i64 x) := (cell_of_row _ _ _ _ _ _ Bh13.out).trans rfl
      have cB1 : w13.cell? ⟨bB, 1, none⟩ = some (.int .i64 y) := (cell_of_row _ _ _ _ _ _ Bh13.out).trans rfl
      have cS0 : w13.cell? ⟨bS, 0, none⟩ = some (.int .i64 E) := (cell_of_row _ _ _ _ _ _ Sh13.out).trans rfl
      have cS1 : w13.cell? ⟨bS, 1, none⟩ = some (.int .i64 S) := (cell_of_row _ _ _ _ _ _ Sh13.out).trans rfl
      have cT0 : w13.cell? ⟨bT, 0, none⟩ = some (.int .i64 tE) := (cell_of_row _ _ _ _ _ _ Th13.out).trans rfl
      have cT1 : w13.cell? ⟨bT, 1, none⟩ = some (.int .i64 tS) := (cell_of_row _ _ _ _ _ _ Th13.out).trans rfl
      go_wp2_with fail
      refine (HF.out.verB rfl _ (HG.out.below HB13.out HG.out.size) (HM.out.up HB13.out)).mono ?_
      rintro e w14 ⟨rfl, hb⟩
      have HB14 := Lib.hid (HB13.out.trans (hb.mono HB13.out.size))
      have Kh14 := Lib.hid (blk_below Kh13.out hb (blk_lt Kh13.out))
      have Bh14 := Lib.hid (blk_below Bh13.out hb (blk_lt Bh13.out))
      have Sh14 := Lib.hid (blk_below Sh13.out hb (blk_lt Sh13.out))
      have Th14 := Lib.hid (blk_below Th13.out hb (blk_lt Th13.out))
      clear cK0 cK1 cB0 cB1 cS0 cS1 cT0 cT1
      clear HB13 Kh13 Bh13 Sh13 Th13
      clear hb
      have cK0 : w14.cell? ⟨bK, 0, none⟩ = some (.int .i64 k) := (cell_of_row _ _ _ _ _ _ Kh14.out).trans rfl
      have cK1 : w14.cell? ⟨bK, 1, none⟩ = some (.int .i64 p) := (cell_of_row _ _ _ _ _ _ Kh14.out).trans rfl
      have cB0 : w14.cell? ⟨bB, 0, none⟩ = some (.int .i64 x) := (cell_of_row _ _ _ _ _ _ Bh14.out).trans rfl
      have cB1 : w14.cell? ⟨bB, 1, none⟩ = some (.int .i64 y) := (cell_of_row _ _ _ _ _ _ Bh14.out).trans rfl
      have cS0 : w14.cell? ⟨bS, 0, none⟩ = some (.int .i64 E) := (cell_of_row _ _ _ _ _ _ Sh14.out).trans rfl
      have cS1 : w14.cell? ⟨bS, 1, none⟩ = some (.int .i64 S) := (cell_of_row _ _ _ _ _ _ Sh14.out).trans rfl
      have cT0 : w14.cell? ⟨bT, 0, none⟩ = some (.int .i64 tE) := (cell_of_row _ _ _ _ _ _ Th14.out).trans rfl
      have cT1 : w14.cell? ⟨bT, 1, none⟩ = some (.int .i64 tS) := (cell_of_row _ _ _ _ _ _ Th14.out).trans rfl
      go_wp2_with fail
      go_ret
      exact ⟨rfl, HB14.out⟩
    · have hz := HF.out.zero (decide_eq_false hsec)
      rw [decide_eq_false hsec] at HF
      obtain ⟨hz1, hz2⟩ := hz
      subst hz1 hz2
      have heqB := eqS 0 0 0 0
      rw [decide_eq_true ⟨rfl, rfl⟩] at heqB
      by_cases h1 : 1 ≤ sec
      · have d1 : decide (1 ≤ sec) = true := decide_eq_true h1
        have d2 : decide (sec < 1152921504606845789) = false := decide_eq_false (fun h => hsec ⟨h1, h⟩)
        clear hsec h1
        go_enter Tryd.func4, Tryd.ntmps4
        go_wp2_with fail
        refine (small_any _ HG.out HM.out).mono ?_
        rintro e w1 ⟨rfl, hb⟩
        have HB1 := Lib.hid hb
        clear hb
        go_wp2_with fail
        refine (HSh.out _).mono ?_
        rintro e wq ⟨rfl, rfl⟩
        go_wp2_with fail
        refine (HF.out.key _ (HG.out.below HB1.out HG.out.size) (HM.out.up HB1.out)).mono ?_
        rintro e w2 ⟨rfl, hb⟩
        have HB2 := Lib.hid (HB1.out.trans (hb.mono HB1.out.size))
        clear HB1
        clear hb
        go_upto_region 6 with fail
        have HB3 := Lib.hid (HB2.out.alloc HB2.out.size (.cells #[.int .i64 k, .int .i64 p] 23))
        have Kh3 := Lib.hid (heap_alloc_new w2 (.cells #[.int .i64 k, .int .i64 p] 23))
        clear HB2
        generalize w2.heap.size = bK at *
        generalize w2.alloc (.cells #[.int .i64 k, .int .i64 p] 23) = w3 at *
        have cK0 : w3.cell? ⟨bK, 0, none⟩ = some (.int .i64 k) := (cell_of_row _ _ _ _ _ _ Kh3.out).trans rfl
        have cK1 : w3.cell? ⟨bK, 1, none⟩ = some (.int .i64 p) := (cell_of_row _ _ _ _ _ _ Kh3.out).trans rfl
        go_wp2_with fail
        refine (HF.out.of _).mono ?_
        rintro e w4 ⟨rfl, hb⟩
        have HB4 := Lib.hid (HB3.out.trans (hb.mono HB3.out.size))
        have Kh4 := Lib.hid (blk_below Kh3.out hb (blk_lt Kh3.out))
        clear cK0 cK1
        clear HB3 Kh3
        clear hb
        have cK0 : w4.cell? ⟨bK, 0, none⟩ = some (.int .i64 k) := (cell_of_row _ _ _ _ _ _ Kh4.out).trans rfl
        have cK1 : w4.cell? ⟨bK, 1, none⟩ = some (.int .i64 p) := (cell_of_row _ _ _ _ _ _ Kh4.out).trans rfl
        go_upto_region 7 with fail
        have HB5 := Lib.hid (HB4.out.alloc HB4.out.size (.cells #[.int .i64 x, .int .i64 y] 23))
        have Bh5 := Lib.hid (heap_alloc_new w4 (.cells #[.int .i64 x, .int .i64 y] 23))
        have Kh5 := Lib.hid (blk_below Kh4.out ((Below.refl w4.heap.size w4).alloc (Nat.le_refl _) (.cells #[.int .i64 x, .int .i64 y] 23)) (blk_lt Kh4.out))
        clear cK0 cK1
        clear HB4 Kh4
        generalize w4.heap.size = bB at *
        generalize w4.alloc (.cells #[.int .i64 x, .int .i64 y] 23) = w5 at *
        have cK0 : w5.cell? ⟨bK, 0, none⟩ = some (.int .i64 k) := (cell_of_row _ _ _ _ _ _ Kh5.out).trans rfl
        have cK1 : w5.cell? ⟨bK, 1, none⟩ = some (.int .i64 p) := (cell_of_row _ _ _ _ _ _ Kh5.out).trans rfl
        have cB0 : w5.cell? ⟨bB, 0, none⟩ = some (.int .i64 x) := (cell_of_row _ _ _ _ _ _ Bh5.out).trans rfl
        have cB1 : w5.cell? ⟨bB, 1, none⟩ = some (.int .i64 y) := (cell_of_row _ _ _ _ _ _ Bh5.out).trans rfl
        go_wp2_with fail
        refine (HF.out.rightB _).mono ?_
        rintro e w6 ⟨rfl, hb⟩
        have HB6 := Lib.hid (HB5.out.trans (hb.mono HB5.out.size))
        have Kh6 := Lib.hid (blk_below Kh5.out hb (blk_lt Kh5.out))
        have Bh6 := Lib.hid (blk_below Bh5.out hb (blk_lt Bh5.out))
        clear cK0 cK1 cB0 cB1
        clear HB5 Kh5 Bh5
        clear hb
        have cK0 : w6.cell? ⟨bK, 0, none⟩ = some (.int .i64 k) := (cell_of_row _ _ _ _ _ _ Kh6.out).trans rfl
        have cK1 : w6.cell? ⟨bK, 1, none⟩ = some (.int .i64 p) := (cell_of_row _ _ _ _ _ _ Kh6.out).trans rfl
        have cB0 : w6.cell? ⟨bB, 0, none⟩ = some (.int .i64 x) := (cell_of_row _ _ _ _ _ _ Bh6.out).trans rfl
        have cB1 : w6.cell? ⟨bB, 1, none⟩ = some (.int .i64 y) := (cell_of_row _ _ _ _ _ _ Bh6.out).trans rfl
        go_wp2_with fail
        refine (HF.out.rightA _).mono ?_
        rintro e w7 ⟨rfl, hb⟩
        have HB7 := Lib.hid (HB6.out.trans (hb.mono HB6.out.size))
        have Kh7 := Lib.hid (blk_below Kh6.out hb (blk_lt Kh6.out))
        have Bh7 := Lib.hid (blk_below Bh6.out hb (blk_lt Bh6.out))
        clear cK0 cK1 cB0 cB1
        clear HB6 Kh6 Bh6
        clear hb
        have cK0 : w7.cell? ⟨bK, 0, none⟩ = some (.int .i64 k) := (cell_of_row _ _ _ _ _ _ Kh7.out).trans rfl
        have cK1 : w7.cell? ⟨bK, 1, none⟩ = some (.int .i64 p) := (cell_of_row _ _ _ _ _ _ Kh7.out).trans rfl
        have cB0 : w7.cell? ⟨bB, 0, none⟩ = some (.int .i64 x) := (cell_of_row _ _ _ _ _ _ Bh7.out).trans rfl
        have cB1 : w7.cell? ⟨bB, 1, none⟩ = some (.int .i64 y) := (cell_of_row _ _ _ _ _ _ Bh7.out).trans rfl
        go_wp2_with fail
        refine (HF.out.signA _ (HG.out.below HB7.out HG.out.size) (HM.out.up HB7.out)).mono ?_
        rintro e w8 ⟨rfl, hb⟩
        have HB8 := Lib.hid (HB7.out.trans (hb.mono HB7.out.size))
        have Kh8 := Lib.hid (blk_below Kh7.out hb (blk_lt Kh7.out))
        have Bh8 := Lib.hid (blk_below Bh7.out hb (blk_lt Bh7.out))
        clear cK0 cK1 cB0 cB1
        clear HB7 Kh7 Bh7
        clear hb
        have cK0 : w8.cell? ⟨bK, 0, none⟩ = some (.int .i64 k) := (cell_of_row _ _ _ _ _ _ Kh8.out).trans rfl
        have cK1 : w8.cell? ⟨bK, 1, none⟩ = some (.int .i64 p) := (cell_of_row _ _ _ _ _ _ Kh8.out).trans rfl
        have cB0 : w8.cell? ⟨bB, 0, none⟩ = some (.int .i64 x) := (cell_of_row _ _ _ _ _ _ Bh8.out).trans rfl
        have cB1 : w8.cell? ⟨bB, 1, none⟩ = some (.int .i64 y) := (cell_of_row _ _ _ _ _ _ Bh8.out).trans rfl
        go_upto_region 10 with fail
        have HB9 := Lib.hid (HB8.out.alloc HB8.out.size (.cells #[.int .i64 E, .int .i64 S] 25))
        have Sh9 := Lib.hid (heap_alloc_new w8 (.cells #[.int .i64 E, .int .i64 S] 25))
        have Kh9 := Lib.hid (blk_below Kh8.out ((Below.refl w8.heap.size w8).alloc (Nat.le_refl _) (.cells #[.int .i64 E, .int .i64 S] 25)) (blk_lt Kh8.out))
        have Bh9 := Lib.hid (blk_below Bh8.out ((Below.refl w8.heap.size w8).alloc (Nat.le_refl _) (.cells #[.int .i64 E, .int .i64 S] 25)) (blk_lt Bh8.out))
        clear cK0 cK1 cB0 cB1
        clear HB8 Kh8 Bh8
        generalize w8.heap.size = bS at *
        generalize w8.alloc (.cells #[.int .i64 E, .int .i64 S] 25) = w9 at *
        have cK0 : w9.cell? ⟨bK, 0, none⟩ = some (.int .i64 k) := (cell_of_row _ _ _ _ _ _ Kh9.out).trans rfl
        have cK1 : w9.cell? ⟨bK, 1, none⟩ = some (.int .i64 p) := (cell_of_row _ _ _ _ _ _ Kh9.out).trans rfl
        have cB0 : w9.cell? ⟨bB, 0, none⟩ = some (.int .i64 x) := (cell_of_row _ _ _ _ _ _ Bh9.out).trans rfl
        have cB1 : w9.cell? ⟨bB, 1, none⟩ = some (.int .i64 y) := (cell_of_row _ _ _ _ _ _ Bh9.out).trans rfl
        have cS0 : w9.cell? ⟨bS, 0, none⟩ = some (.int .i64 E) := (cell_of_row _ _ _ _ _ _ Sh9.out).trans rfl
        have cS1 : w9.cell? ⟨bS, 1, none⟩ = some (.int .i64 S) := (cell_of_row _ _ _ _ _ _ Sh9.out).trans rfl
        clear cK0 cK1 cB0 cB1 cS0 cS1
        have HS0 : Hid (w9.heap[bK]? = some (.cells #[.int .i64 k, .int .i64 p] 23) ∧ w9.heap[bB]? = some (.cells #[.int .i64 x, .int .i64 y] 23) ∧ w9.heap[bS]? = some (.cells #[.int .i64 E, .int .i64 S] 25) ∧ w9.cell? ⟨bK, 0, none⟩ = some (.int .i64 k) ∧ w9.cell? ⟨bK, 1, none⟩ = some (.int .i64 p) ∧ w9.cell? ⟨bS, 0, none⟩ = some (.int .i64 E) ∧ w9.cell? ⟨bS, 1, none⟩ = some (.int .i64 S) ∧ Below w.heap.size w w9) := Lib.hid ⟨Kh9.out, Bh9.out, Sh9.out, (cell_of_row _ _ _ _ _ _ Kh9.out).trans rfl, (cell_of_row _ _ _ _ _ _ Kh9.out).trans rfl, (cell_of_row _ _ _ _ _ _ Sh9.out).trans rfl, (cell_of_row _ _ _ _ _ _ Sh9.out).trans rfl, HB9.out⟩
        clear Kh9 Bh9 Sh9 HB9
        go_region_held3 (fun w' => w'.heap[bK]? = some (.cells #[.int .i64 k, .int .i64 p] 23) ∧ w'.heap[bB]? = some (.cells #[.int .i64 x, .int .i64 y] 23) ∧ w'.heap[bS]? = some (.cells #[.int .i64 E, .int .i64 S] 25) ∧ w'.cell? ⟨bK, 0, none⟩ = some (.int .i64 k) ∧ w'.cell? ⟨bK, 1, none⟩ = some (.int .i64 p) ∧ w'.cell? ⟨bS, 0, none⟩ = some (.int .i64 E) ∧ w'.cell? ⟨bS, 1, none⟩ = some (.int .i64 S) ∧ Below w.heap.size w w') (first | assumption | exact HS0.out | exact hold_step (by assumption) hb | exact hold_stepN (by assumption) _) ((first | (go_at_call 18; refine (HF.out.verA _ (HG.out.below (show _ ∧ _ ∧ _ ∧ _ ∧ _ ∧ _ ∧ _ ∧ Below w.heap.size w _ by assumption).2.2.2.2.2.2.2 HG.out.size) (HM.out.up (show _ ∧ _ ∧ _ ∧ _ ∧ _ ∧ _ ∧ _ ∧ Below w.heap.size w _ by assumption).2.2.2.2.2.2.2)).mono ?_; rintro e w' ⟨rfl, hb⟩) | (go_at_call 16; refine (HF.out.signA _ (HG.out.below (show _ ∧ _ ∧ _ ∧ _ ∧ _ ∧ _ ∧ _ ∧ Below w.heap.size w _ by assumption).2.2.2.2.2.2.2 HG.out.size) (HM.out.up (show _ ∧ _ ∧ _ ∧ _ ∧ _ ∧ _ ∧ _ ∧ Below w.heap.size w _ by assumption).2.2.2.2.2.2.2)).mono ?_; rintro e w' ⟨rfl, hb⟩)))
        rename World => w10
        rename _ ∧ _ => hFin
        obtain ⟨qK, qB, qS, -, -, -, -, qBel⟩ := hFin
        have Kh10 := Lib.hid qK
        have Bh10 := Lib.hid qB
        have Sh10 := Lib.hid qS
        have HB10 := Lib.hid qBel
        clear HS0 qBel qK qB qS
        have cK0 : w10.cell? ⟨bK, 0, none⟩ = some (.int .i64 k) := (cell_of_row _ _ _ _ _ _ Kh10.out).trans rfl
        have cK1 : w10.cell? ⟨bK, 1, none⟩ = some (.int .i64 p) := (cell_of_row _ _ _ _ _ _ Kh10.out).trans rfl
        have cB0 : w10.cell? ⟨bB, 0, none⟩ = some (.int .i64 x) := (cell_of_row _ _ _ _ _ _ Bh10.out).trans rfl
        have cB1 : w10.cell? ⟨bB, 1, none⟩ = some (.int .i64 y) := (cell_of_row _ _ _ _ _ _ Bh10.out).trans rfl
        have cS0 : w10.cell? ⟨bS, 0, none⟩ = some (.int .i64 E) := (cell_of_row _ _ _ _ _ _ Sh10.out).trans rfl
        have cS1 : w10.cell? ⟨bS, 1, none⟩ = some (.int .i64 S) := (cell_of_row _ _ _ _ _ _ Sh10.out).trans rfl
        go_wp2_with fail
        refine (HF.out.signB _ (HG.out.below HB10.out HG.out.size) (HM.out.up HB10.out)).mono ?_
        rintro e w11 ⟨rfl, hb⟩
        have HB11 := Lib.hid (HB10.out.trans (hb.mono HB10.out.size))
        have Kh11 := Lib.hid (blk_below Kh10.out hb (blk_lt Kh10.out))
        have Bh11 := Lib.hid (blk_below Bh10.out hb (blk_lt Bh10.out))
        have Sh11 := Lib.hid (blk_below Sh10.out hb (blk_lt Sh10.out))
        clear cK0 cK1 cB0 cB1 cS0 cS1
        clear HB10 Kh10 Bh10 Sh10
        clear hb
        have cK0 : w11.cell? ⟨bK, 0, none⟩ = some (.int .i64 k) := (cell_of_row _ _ _ _ _ _ Kh11.out).trans rfl
        have cK1 : w11.cell? ⟨bK, 1, none⟩ = some (.int .i64 p) := (cell_of_row _ _ _ _ _ _ Kh11.out).trans rfl
        have cB0 : w11.cell? ⟨bB, 0, none⟩ = some (.int .i64 x) := (cell_of_row _ _ _ _ _ _ Bh11.out).trans rfl
        have cB1 : w11.cell? ⟨bB, 1, none⟩ = some (.int .i64 y) := (cell_of_row _ _ _ _ _ _ Bh11.out).trans rfl
        have cS0 : w11.cell? ⟨bS, 0, none⟩ = some (.int .i64 E) := (cell_of_row _ _ _ _ _ _ Sh11.out).trans rfl
        have cS1 : w11.cell? ⟨bS, 1, none⟩ = some (.int .i64 S) := (cell_of_row _ _ _ _ _ _ Sh11.out).trans rfl
        go_upto_region 13 with fail
        have HB12 := Lib.hid (HB11.out.alloc HB11.out.size (.cells #[.int .i64 0, .int .i64 0] 25))
        have Th12 := Lib.hid (heap_alloc_new w11 (.cells #[.int .i64 0, .int .i64 0] 25))
        have Kh12 := Lib.hid (blk_below Kh11.out ((Below.refl w11.heap.size w11).alloc (Nat.le_refl _) (.cells #[.int .i64 0, .int .i64 0] 25)) (blk_lt Kh11.out))
        have Bh12 := Lib.hid (blk_below Bh11.out ((Below.refl w11.heap.size w11).alloc (Nat.le_refl _) (.cells #[.int .i64 0, .int .i64 0] 25)) (blk_lt Bh11.out))
        have Sh12 := Lib.hid (blk_below Sh11.out ((Below.refl w11.heap.size w11).alloc (Nat.le_refl _) (.cells #[.int .i64 0, .int .i64 0] 25)) (blk_lt Sh11.out))
        clear cK0 cK1 cB0 cB1 cS0 cS1
        clear HB11 Kh11 Bh11 Sh11
        generalize w11.heap.size = bT at *
        generalize w11.alloc (.cells #[.int .i64 0, .int .i64 0] 25) = w12 at *
        have cK0 : w12.cell? ⟨bK, 0, none⟩ = some (.int .i64 k) := (cell_of_row _ _ _ _ _ _ Kh12.out).trans rfl
        have cK1 : w12.cell? ⟨bK, 1, none⟩ = some (.int .i64 p) := (cell_of_row _ _ _ _ _ _ Kh12.out).trans rfl
        have cB0 : w12.cell? ⟨bB, 0, none⟩ = some (.int .i64 x) := (cell_of_row _ _ _ _ _ _ Bh12.out).trans rfl
        have cB1 : w12.cell? ⟨bB, 1, none⟩ = some (.int .i64 y) := (cell_of_row _ _ _ _ _ _ Bh12.out).trans rfl
        have cS0 : w12.cell? ⟨bS, 0, none⟩ = some (.int .i64 E) := (cell_of_row _ _ _ _ _ _ Sh12.out).trans rfl
        have cS1 : w12.cell? ⟨bS, 1, none⟩ = some (.int .i64 S) := (cell_of_row _ _ _ _ _ _ Sh12.out).trans rfl
        have cT0 : w12.cell? ⟨bT, 0, none⟩ = some (.int .i64 0) := (cell_of_row _ _ _ _ _ _ Th12.out).trans rfl
        have cT1 : w12.cell? ⟨bT, 1, none⟩ = some (.int .i64 0) := (cell_of_row _ _ _ _ _ _ Th12.out).trans rfl
        go_wp2_with fail
        refine (HF.out.rightB _).mono ?_
        rintro e w13 ⟨rfl, hb⟩
        have HB13 := Lib.hid (HB12.out.trans (hb.mono HB12.out.size))
        have Kh13 := Lib.hid (blk_below Kh12.out hb (blk_lt Kh12.out))
        have Bh13 := Lib.hid (blk_below Bh12.out hb (blk_lt Bh12.out))
        have Sh13 := Lib.hid (blk_below Sh12.out hb (blk_lt Sh12.out))
        have Th13 := Lib.hid (blk_below Th12.out hb (blk_lt Th12.out))
        clear cK0 cK1 cB0 cB1 cS0 cS1 cT0 cT1
        clear HB12 Kh12 Bh12 Sh12 Th12
        clear hb
        have cK0 : w13.cell? ⟨bK, 0, none⟩ = some (.int .i64 k) := (cell_of_row _ _ _ _ _ _ Kh13.out).trans rfl
        have cK1 : w13.cell? ⟨bK, 1, none⟩ = some (.int .i64 p) := (cell_of_row _ _ _ _ _ _ Kh13.out).trans rfl
        have cB0 : w13.cell? ⟨bB, 0, none⟩ = some (.int .i64 x) := (cell_of_row _ _ _ _ _ _ Bh13.out).trans rfl
        have cB1 : w13.cell? ⟨bB, 1, none⟩ = some (.int .i64 y) := (cell_of_row _ _ _ _ _ _ Bh13.out).trans rfl
        have cS0 : w13.cell? ⟨bS, 0, none⟩ = some (.int .i64 E) := (cell_of_row _ _ _ _ _ _ Sh13.out).trans rfl
        have cS1 : w13.cell? ⟨bS, 1, none⟩ = some (.int .i64 S) := (cell_of_row _ _ _ _ _ _ Sh13.out).trans rfl
        have cT0 : w13.cell? ⟨bT, 0, none⟩ = some (.int .i64 0) := (cell_of_row _ _ _ _ _ _ Th13.out).trans rfl
        have cT1 : w13.cell? ⟨bT, 1, none⟩ = some (.int .i64 0) := (cell_of_row _ _ _ _ _ _ Th13.out).trans rfl
        go_wp2_with fail
        go_ret
        exact ⟨rfl, HB13.out⟩
      · have d1 : decide (1 ≤ sec) = false := decide_eq_false h1
        clear hsec h1
        go_enter Tryd.func4, Tryd.ntmps4
        go_wp2_with fail
        refine (small_any _ HG.out HM.out).mono ?_
        rintro e w1 ⟨rfl, hb⟩
        have HB1 := Lib.hid hb
        clear hb
        go_wp2_with fail
        refine (HSh.out _).mono ?_
        rintro e wq ⟨rfl, rfl⟩
        go_wp2_with fail
        refine (HF.out.key _ (HG.out.below HB1.out HG.out.size) (HM.out.up HB1.out)).mono ?_
        rintro e w2 ⟨rfl, hb⟩
        have HB2 := Lib.hid (HB1.out.trans (hb.mono HB1.out.size))
        clear HB1
        clear hb
        go_upto_region 6 with fail
        have HB3 := Lib.hid (HB2.out.alloc HB2.out.size (.cells #[.int .i64 k, .int .i64 p] 23))
        have Kh3 := Lib.hid (heap_alloc_new w2 (.cells #[.int .i64 k, .int .i64 p] 23))
        clear HB2
        generalize w2.heap.size = bK at *
        generalize w2.alloc (.cells #[.int .i64 k, .int .i64 p] 23) = w3 at *
        have cK0 : w3.cell? ⟨bK, 0, none⟩ = some (.int .i64 k) := (cell_of_row _ _ _ _ _ _ Kh3.out).trans rfl
        have cK1 : w3.cell? ⟨bK, 1, none⟩ = some (.int .i64 p) := (cell_of_row _ _ _ _ _ _ Kh3.out).trans rfl
        go_wp2_with fail
        refine (HF.out.of _).mono ?_
        rintro e w4 ⟨rfl, hb⟩
        have HB4 := Lib.hid (HB3.out.trans (hb.mono HB3.out.size))
        have Kh4 := Lib.hid (blk_below Kh3.out hb (blk_lt Kh3.out))
        clear cK0 cK1
        clear HB3 Kh3
        clear hb
        have cK0 : w4.cell? ⟨bK, 0, none⟩ = some (.int .i64 k) := (cell_of_row _ _ _ _ _ _ Kh4.out).trans rfl
        have cK1 : w4.cell? ⟨bK, 1, none⟩ = some (.int .i64 p) := (cell_of_row _ _ _ _ _ _ Kh4.out).trans rfl
        go_upto_region 7 with fail
        have HB5 := Lib.hid (HB4.out.alloc HB4.out.size (.cells #[.int .i64 x, .int .i64 y] 23))
        have Bh5 := Lib.hid (heap_alloc_new w4 (.cells #[.int .i64 x, .int .i64 y] 23))
        have Kh5 := Lib.hid (blk_below Kh4.out ((Below.refl w4.heap.size w4).alloc (Nat.le_refl _) (.cells #[.int .i64 x, .int .i64 y] 23)) (blk_lt Kh4.out))
        clear cK0 cK1
        clear HB4 Kh4
        generalize w4.heap.size = bB at *
        generalize w4.alloc (.cells #[.int .i64 x, .int .i64 y] 23) = w5 at *
        have cK0 : w5.cell? ⟨bK, 0, none⟩ = some (.int .i64 k) := (cell_of_row _ _ _ _ _ _ Kh5.out).trans rfl
        have cK1 : w5.cell? ⟨bK, 1, none⟩ = some (.int .i64 p) := (cell_of_row _ _ _ _ _ _ Kh5.out).trans rfl
        have cB0 : w5.cell? ⟨bB, 0, none⟩ = some (.int .i64 x) := (cell_of_row _ _ _ _ _ _ Bh5.out).trans rfl
        have cB1 : w5.cell? ⟨bB, 1, none⟩ = some (.int .i64 y) := (cell_of_row _ _ _ _ _ _ Bh5.out).trans rfl
        go_wp2_with fail
        refine (HF.out.rightB _).mono ?_
        rintro e w6 ⟨rfl, hb⟩
        have HB6 := Lib.hid (HB5.out.trans (hb.mono HB5.out.size))
        have Kh6 := Lib.hid (blk_below Kh5.out hb (blk_lt Kh5.out))
        have Bh6 := Lib.hid (blk_below Bh5.out hb (blk_lt Bh5.out))
        clear cK0 cK1 cB0 cB1
        clear HB5 Kh5 Bh5
        clear hb
        have cK0 : w6.cell? ⟨bK, 0, none⟩ = some (.int .i64 k) := (cell_of_row _ _ _ _ _ _ Kh6.out).trans rfl
        have cK1 : w6.cell? ⟨bK, 1, none⟩ = some (.int .i64 p) := (cell_of_row _ _ _ _ _ _ Kh6.out).trans rfl
        have cB0 : w6.cell? ⟨bB, 0, none⟩ = some (.int .i64 x) := (cell_of_row _ _ _ _ _ _ Bh6.out).trans rfl
        have cB1 : w6.cell? ⟨bB, 1, none⟩ = some (.int .i64 y) := (cell_of_row _ _ _ _ _ _ Bh6.out).trans rfl
        go_wp2_with fail
        refine (HF.out.rightA _).mono ?_
        rintro e w7 ⟨rfl, hb⟩
        have HB7 := Lib.hid (HB6.out.trans (hb.mono HB6.out.size))
        have Kh7 := Lib.hid (blk_below Kh6.out hb (blk_lt Kh6.out))
        have Bh7 := Lib.hid (blk_below Bh6.out hb (blk_lt Bh6.out))
        clear cK0 cK1 cB0 cB1
        clear HB6 Kh6 Bh6
        clear hb
        have cK0 : w7.cell? ⟨bK, 0, none⟩ = some (.int .i64 k) := (cell_of_row _ _ _ _ _ _ Kh7.out).trans rfl
        have cK1 : w7.cell? ⟨bK, 1, none⟩ = some (.int .i64 p) := (cell_of_row _ _ _ _ _ _ Kh7.out).trans rfl
        have cB0 : w7.cell? ⟨bB, 0, none⟩ = some (.int .i64 x) := (cell_of_row _ _ _ _ _ _ Bh7.out).trans rfl
        have cB1 : w7.cell? ⟨bB, 1, none⟩ = some (.int .i64 y) := (cell_of_row _ _ _ _ _ _ Bh7.out).trans rfl
        go_wp2_with fail
        refine (HF.out.signA _ (HG.out.below HB7.out HG.out.size) (HM.out.up HB7.out)).mono ?_
        rintro e w8 ⟨rfl, hb⟩
        have HB8 := Lib.hid (HB7.out.trans (hb.mono HB7.out.size))
        have Kh8 := Lib.hid (blk_below Kh7.out hb (blk_lt Kh7.out))
        have Bh8 := Lib.hid (blk_below Bh7.out hb (blk_lt Bh7.out))
        clear cK0 cK1 cB0 cB1
        clear HB7 Kh7 Bh7
        clear hb
        have cK0 : w8.cell? ⟨bK, 0, none⟩ = some (.int .i64 k) := (cell_of_row _ _ _ _ _ _ Kh8.out).trans rfl
        have cK1 : w8.cell? ⟨bK, 1, none⟩ = some (.int .i64 p) := (cell_of_row _ _ _ _ _ _ Kh8.out).trans rfl
        have cB0 : w8.cell? ⟨bB, 0, none⟩ = some (.int .i64 x) := (cell_of_row _ _ _ _ _ _ Bh8.out).trans rfl
        have cB1 : w8.cell? ⟨bB, 1, none⟩ = some (.int .i64 y) := (cell_of_row _ _ _ _ _ _ Bh8.out).trans rfl
        go_upto_region 10 with fail
        have HB9 := Lib.hid (HB8.out.alloc HB8.out.size (.cells #[.int .i64 E, .int .i64 S] 25))
        have Sh9 := Lib.hid (heap_alloc_new w8 (.cells #[.int .i64 E, .int .i64 S] 25))
        have Kh9 := Lib.hid (blk_below Kh8.out ((Below.refl w8.heap.size w8).alloc (Nat.le_refl _) (.cells #[.int .i64 E, .int .i64 S] 25)) (blk_lt Kh8.out))
        have Bh9 := Lib.hid (blk_below Bh8.out ((Below.refl w8.heap.size w8).alloc (Nat.le_refl _) (.cells #[.int .i64 E, .int .i64 S] 25)) (blk_lt Bh8.out))
        clear cK0 cK1 cB0 cB1
        clear HB8 Kh8 Bh8
        generalize w8.heap.size = bS at *
        generalize w8.alloc (.cells #[.int .i64 E, .int .i64 S] 25) = w9 at *
        have cK0 : w9.cell? ⟨bK, 0, none⟩ = some (.int .i64 k) := (cell_of_row _ _ _ _ _ _ Kh9.out).trans rfl
        have cK1 : w9.cell? ⟨bK, 1, none⟩ = some (.int .i64 p) := (cell_of_row _ _ _ _ _ _ Kh9.out).trans rfl
        have cB0 : w9.cell? ⟨bB, 0, none⟩ = some (.int .i64 x) := (cell_of_row _ _ _ _ _ _ Bh9.out).trans rfl
        have cB1 : w9.cell? ⟨bB, 1, none⟩ = some (.int .i64 y) := (cell_of_row _ _ _ _ _ _ Bh9.out).trans rfl
        have cS0 : w9.cell? ⟨bS, 0, none⟩ = some (.int .i64 E) := (cell_of_row _ _ _ _ _ _ Sh9.out).trans rfl
        have cS1 : w9.cell? ⟨bS, 1, none⟩ = some (.int .i64 S) := (cell_of_row _ _ _ _ _ _ Sh9.out).trans rfl
        clear cK0 cK1 cB0 cB1 cS0 cS1
        have HS0 : Hid (w9.heap[bK]? = some (.cells #[.int .i64 k, .int .i64 p] 23) ∧ w9.heap[bB]? = some (.cells #[.int .i64 x, .int .i64 y] 23) ∧ w9.heap[bS]? = some (.cells #[.int .i64 E, .int .i64 S] 25) ∧ w9.cell? ⟨bK, 0, none⟩ = some (.int .i64 k) ∧ w9.cell? ⟨bK, 1, none⟩ = some (.int .i64 p) ∧ w9.cell? ⟨bS, 0, none⟩ = some (.int .i64 E) ∧ w9.cell? ⟨bS, 1, none⟩ = some (.int .i64 S) ∧ Below w.heap.size w w9) := Lib.hid ⟨Kh9.out, Bh9.out, Sh9.out, (cell_of_row _ _ _ _ _ _ Kh9.out).trans rfl, (cell_of_row _ _ _ _ _ _ Kh9.out).trans rfl, (cell_of_row _ _ _ _ _ _ Sh9.out).trans rfl, (cell_of_row _ _ _ _ _ _ Sh9.out).trans rfl, HB9.out⟩
        clear Kh9 Bh9 Sh9 HB9
        go_region_held3 (fun w' => w'.heap[bK]? = some (.cells #[.int .i64 k, .int .i64 p] 23) ∧ w'.heap[bB]? = some (.cells #[.int .i64 x, .int .i64 y] 23) ∧ w'.heap[bS]? = some (.cells #[.int .i64 E, .int .i64 S] 25) ∧ w'.cell? ⟨bK, 0, none⟩ = some (.int .i64 k) ∧ w'.cell? ⟨bK, 1, none⟩ = some (.int .i64 p) ∧ w'.cell? ⟨bS, 0, none⟩ = some (.int .i64 E) ∧ w'.cell? ⟨bS, 1, none⟩ = some (.int .i64 S) ∧ Below w.heap.size w w') (first | assumption | exact HS0.out | exact hold_step (by assumption) hb | exact hold_stepN (by assumption) _) ((first | (go_at_call 18; refine (HF.out.verA _ (HG.out.below (show _ ∧ _ ∧ _ ∧ _ ∧ _ ∧ _ ∧ _ ∧ Below w.heap.size w _ by assumption).2.2.2.2.2.2.2 HG.out.size) (HM.out.up (show _ ∧ _ ∧ _ ∧ _ ∧ _ ∧ _ ∧ _ ∧ Below w.heap.size w _ by assumption).2.2.2.2.2.2.2)).mono ?_; rintro e w' ⟨rfl, hb⟩) | (go_at_call 16; refine (HF.out.signA _ (HG.out.below (show _ ∧ _ ∧ _ ∧ _ ∧ _ ∧ _ ∧ _ ∧ Below w.heap.size w _ by assumption).2.2.2.2.2.2.2 HG.out.size) (HM.out.up (show _ ∧ _ ∧ _ ∧ _ ∧ _ ∧ _ ∧ _ ∧ Below w.heap.size w _ by assumption).2.2.2.2.2.2.2)).mono ?_; rintro e w' ⟨rfl, hb⟩)))
        rename World => w10
        rename _ ∧ _ => hFin
        obtain ⟨qK, qB, qS, -, -, -, -, qBel⟩ := hFin
        have Kh10 := Lib.hid qK
        have Bh10 := Lib.hid qB
        have Sh10 := Lib.hid qS
        have HB10 := Lib.hid qBel
        clear HS0 qBel qK qB qS
        have cK0 : w10.cell? ⟨bK, 0, none⟩ = some (.int .i64 k) := (cell_of_row _ _ _ _ _ _ Kh10.out).trans rfl
        have cK1 : w10.cell? ⟨bK, 1, none⟩ = some (.int .i64 p) := (cell_of_row _ _ _ _ _ _ Kh10.out).trans rfl
        have cB0 : w10.cell? ⟨bB, 0, none⟩ = some (.int .i64 x) := (cell_of_row _ _ _ _ _ _ Bh10.out).trans rfl
        have cB1 : w10.cell? ⟨bB, 1, none⟩ = some (.int .i64 y) := (cell_of_row _ _ _ _ _ _ Bh10.out).trans rfl
        have cS0 : w10.cell? ⟨bS, 0, none⟩ = some (.int .i64 E) := (cell_of_row _ _ _ _ _ _ Sh10.out).trans rfl
        have cS1 : w10.cell? ⟨bS, 1, none⟩ = some (.int .i64 S) := (cell_of_row _ _ _ _ _ _ Sh10.out).trans rfl
        go_wp2_with fail
        refine (HF.out.signB _ (HG.out.below HB10.out HG.out.size) (HM.out.up HB10.out)).mono ?_
        rintro e w11 ⟨rfl, hb⟩
        have HB11 := Lib.hid (HB10.out.trans (hb.mono HB10.out.size))
        have Kh11 := Lib.hid (blk_below Kh10.out hb (blk_lt Kh10.out))
        have Bh11 := Lib.hid (blk_below Bh10.out hb (blk_lt Bh10.out))
        have Sh11 := Lib.hid (blk_below Sh10.out hb (blk_lt Sh10.out))
        clear cK0 cK1 cB0 cB1 cS0 cS1
        clear HB10 Kh10 Bh10 Sh10
        clear hb
        have cK0 : w11.cell? ⟨bK, 0, none⟩ = some (.int .i64 k) := (cell_of_row _ _ _ _ _ _ Kh11.out).trans rfl
        have cK1 : w11.cell? ⟨bK, 1, none⟩ = some (.int .i64 p) := (cell_of_row _ _ _ _ _ _ Kh11.out).trans rfl
        have cB0 : w11.cell? ⟨bB, 0, none⟩ = some (.int .i64 x) := (cell_of_row _ _ _ _ _ _ Bh11.out).trans rfl
        have cB1 : w11.cell? ⟨bB, 1, none⟩ = some (.int .i64 y) := (cell_of_row _ _ _ _ _ _ Bh11.out).trans rfl
        have cS0 : w11.cell? ⟨bS, 0, none⟩ = some (.int .i64 E) := (cell_of_row _ _ _ _ _ _ Sh11.out).trans rfl
        have cS1 : w11.cell? ⟨bS, 1, none⟩ = some (.int .i64 S) := (cell_of_row _ _ _ _ _ _ Sh11.out).trans rfl
        go_upto_region 13 with fail
        have HB12 := Lib.hid (HB11.out.alloc HB11.out.size (.cells #[.int .i64 0, .int .i64 0] 25))
        have Th12 := Lib.hid (heap_alloc_new w11 (.cells #[.int .i64 0, .int .i64 0] 25))
        have Kh12 := Lib.hid (blk_below Kh11.out ((Below.refl w11.heap.size w11).alloc (Nat.le_refl _) (.cells #[.int .i64 0, .int .i64 0] 25)) (blk_lt Kh11.out))
        have Bh12 := Lib.hid (blk_below Bh11.out ((Below.refl w11.heap.size w11).alloc (Nat.le_refl _) (.cells #[.int .i64 0, .int .i64 0] 25)) (blk_lt Bh11.out))
        have Sh12 := Lib.hid (blk_below Sh11.out ((Below.refl w11.heap.size w11).alloc (Nat.le_refl _) (.cells #[.int .i64 0, .int .i64 0] 25)) (blk_lt Sh11.out))
        clear cK0 cK1 cB0 cB1 cS0 cS1
        clear HB11 Kh11 Bh11 Sh11
        generalize w11.heap.size = bT at *
        generalize w11.alloc (.cells #[.int .i64 0, .int .i64 0] 25) = w12 at *
        have cK0 : w12.cell? ⟨bK, 0, none⟩ = some (.int .i64 k) := (cell_of_row _ _ _ _ _ _ Kh12.out).trans rfl
        have cK1 : w12.cell? ⟨bK, 1, none⟩ = some (.int .i64 p) := (cell_of_row _ _ _ _ _ _ Kh12.out).trans rfl
        have cB0 : w12.cell? ⟨bB, 0, none⟩ = some (.int .i64 x) := (cell_of_row _ _ _ _ _ _ Bh12.out).trans rfl
        have cB1 : w12.cell? ⟨bB, 1, none⟩ = some (.int .i64 y) := (cell_of_row _ _ _ _ _ _ Bh12.out).trans rfl
        have cS0 : w12.cell? ⟨bS, 0, none⟩ = some (.int .i64 E) := (cell_of_row _ _ _ _ _ _ Sh12.out).trans rfl
        have cS1 : w12.cell? ⟨bS, 1, none⟩ = some (.int .i64 S) := (cell_of_row _ _ _ _ _ _ Sh12.out).trans rfl
        have cT0 : w12.cell? ⟨bT, 0, none⟩ = some (.int .i64 0) := (cell_of_row _ _ _ _ _ _ Th12.out).trans rfl
        have cT1 : w12.cell? ⟨bT, 1, none⟩ = some (.int .i64 0) := (cell_of_row _ _ _ _ _ _ Th12.out).trans rfl
        go_wp2_with fail
        refine (HF.out.rightB _).mono ?_
        rintro e w13 ⟨rfl, hb⟩
        have HB13 := Lib.hid (HB12.out.trans (hb.mono HB12.out.size))
        have Kh13 := Lib.hid (blk_below Kh12.out hb (blk_lt Kh12.out))
        have Bh13 := Lib.hid (blk_below Bh12.out hb (blk_lt Bh12.out))
        have Sh13 := Lib.hid (blk_below Sh12.out hb (blk_lt Sh12.out))
        have Th13 := Lib.hid (blk_below Th12.out hb (blk_lt Th12.out))
        clear cK0 cK1 cB0 cB1 cS0 cS1 cT0 cT1
        clear HB12 Kh12 Bh12 Sh12 Th12
        clear hb
        have cK0 : w13.cell? ⟨bK, 0, none⟩ = some (.int .i64 k) := (cell_of_row _ _ _ _ _ _ Kh13.out).trans rfl
        have cK1 : w13.cell? ⟨bK, 1, none⟩ = some (.int .i64 p) := (cell_of_row _ _ _ _ _ _ Kh13.out).trans rfl
        have cB0 : w13.cell? ⟨bB, 0, none⟩ = some (.int .i64 x) := (cell_of_row _ _ _ _ _ _ Bh13.out).trans rfl
        have cB1 : w13.cell? ⟨bB, 1, none⟩ = some (.int .i64 y) := (cell_of_row _ _ _ _ _ _ Bh13.out).trans rfl
        have cS0 : w13.cell? ⟨bS, 0, none⟩ = some (.int .i64 E) := (cell_of_row _ _ _ _ _ _ Sh13.out).trans rfl
        have cS1 : w13.cell? ⟨bS, 1, none⟩ = some (.int .i64 S) := (cell_of_row _ _ _ _ _ _ Sh13.out).trans rfl
        have cT0 : w13.cell? ⟨bT, 0, none⟩ = some (.int .i64 0) := (cell_of_row _ _ _ _ _ _ Th13.out).trans rfl
        have cT1 : w13.cell? ⟨bT, 1, none⟩ = some (.int .i64 0) := (cell_of_row _ _ _ _ _ _ Th13.out).trans rfl
        go_wp2_with fail
        go_ret
        exact ⟨rfl, HB13.out⟩
  · rw [decide_eq_false hs] at HSh
    clear hs
    go_enter Tryd.func4, Tryd.ntmps4
    go_wp2_with fail
    refine (small_any _ HG.out HM.out).mono ?_
    rintro e w1 ⟨rfl, hb⟩
    have HB1 := Lib.hid hb
    clear hb
    go_wp2_with fail
    refine (HSh.out _).mono ?_
    rintro e w2 ⟨rfl, rfl⟩
    go_wp2_with fail
    go_ret
    exact ⟨rfl, HB1.out⟩
end Go.Proofs.YtnomicccdhilbaaDoor
