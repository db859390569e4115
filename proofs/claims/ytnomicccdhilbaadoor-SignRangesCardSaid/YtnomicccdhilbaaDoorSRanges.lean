/- bournelaw05.SignRanges returns true. -/
import Derived.Test.YtnomicccdhilbaaDoorSHolds
import Derived.Outline
namespace Go.Proofs.YtnomicccdhilbaaDoor
open Go.RowKit
structure RangeFacts (seed c m : ByteArray) (n k p E S : Int) : Prop where
  key : ∀ w, Glob w → MLen w → Calls Tryd.prog 10 #[.string seed] w fun e w' => e = .returned (.agg #[.int .i64 k, .int .i64 p]) ∧ Below w.heap.size w w'
  signA : ∀ w, Glob w → MLen w → Calls Tryd.prog 16 #[.agg #[.int .i64 k, .int .i64 p], .string c, .string m] w fun e w' => e = .returned (.agg #[.int .i64 E, .int .i64 S]) ∧ Below w.heap.size w w'
  va : ∀ w, Calls Tryd.prog 18 #[.int .i64 p, .string c, .string m, .agg #[.int .i64 (E + n * 1152921504606845789), .int .i64 S]] w fun e w' => e = .returned (.bool false) ∧ Below w.heap.size w w'
  vb : ∀ w, Calls Tryd.prog 18 #[.int .i64 p, .string c, .string m, .agg #[.int .i64 E, .int .i64 (S + n * 1152921504606845789)]] w fun e w' => e = .returned (.bool false) ∧ Below w.heap.size w w'
  vc : n < 0 → ∀ w, Calls Tryd.prog 18 #[.int .i64 (p + n * 2305843009213691579), .string c, .string m, .agg #[.int .i64 E, .int .i64 S]] w fun e w' => e = .returned (.bool false) ∧ Below w.heap.size w w'
  vd : ∀ w, Calls Tryd.prog 18 #[.int .i64 (2305843009213691579 - p), .string c, .string m, .agg #[.int .i64 E, .int .i64 S]] w fun e w' => e = .returned (.bool false) ∧ Below w.heap.size w w'
  hE : 0 ≤ E ∧ E < 1152921504606845789
  hS : 0 ≤ S ∧ S < 1152921504606845789
  hp : 1 ≤ p ∧ p < 2305843009213691579
theorem neg_out {y : Nat} (h : InG (y : Int)) : ¬ InG (2305843009213691579 - (y : Int)) := by
  intro g
  have h1 := h.2.2
  rw [Int.toNat_natCast] at h1
  have hy : y ≤ gP := by have := h.2.1; show y ≤ 2305843009213691579; omega
  have h2 := neg_pow hy h1
  have h3 := g.2.2
  have e : ((2305843009213691579 : Int) - (y : Int)).toNat = gP - y := by show _ = 2305843009213691579 - y; omega
  rw [e, h2] at h3
  revert h3
  decide
theorem rangeFacts (seed c m : ByteArray) (n : Int) (h1 : seed.size ≤ 2000) (h2 : c.size ≤ 2000) (h3 : m.size ≤ 2000) (n0 : n ≠ 0) (n1 : -3 ≤ n) (n2 : n ≤ 3) :
    ∃ k p E S, RangeFacts seed c m n k p E S := by
  have hk := keyN_bd seed.data.toList
  have hE := sgE_lt (keyN seed.data.toList) c.data.toList m.data.toList
  have hS := sgS_lt (keyN seed.data.toList) c.data.toList m.data.toList
  have hI := pub_in (keyN seed.data.toList)
  have hN := neg_out hI
  have hp1 := hI.1
  have hp2 := hI.2.1
  refine ⟨_, _, _, _, ⟨fun w hg hm => key_any seed w h1 hg hm, fun w hg hm => sign_yes _ c m w hk.1 hk.2 h2 h3 hg hm, fun w => ver_out _ _ _ c m w ⟨by omega, by omega⟩ ?_, fun w => ver_out _ _ _ c m w ⟨by omega, by omega⟩ ?_, fun hn w => ver_out _ _ _ c m w ⟨by omega, by omega⟩ ?_, fun w => ver_out _ _ _ c m w ⟨by omega, by omega⟩ ?_, ⟨by omega, by omega⟩, ⟨by omega, by omega⟩, ⟨by omega, by omega⟩⟩⟩
  · intro h
    have := h.2.2.1
    omega
  · intro h
    have := h.2.2.2
    omega
  · intro h
    have := h.2.1.1
    omega
  · exact fun h => hN h.2.1
set_option maxRecDepth 100000 in
set_option maxHeartbeats 8000000 in
theorem ranges_core (seed c m : ByteArray) (n : Int) (w : World) (hg : Glob w) (hml : MLen w) (hs : seed.size + c.size + m.size ≤ 4611686018427387904) :
    Calls Tryd.prog 6 #[.string seed, .string c, .string m, .int .i64 n] w fun e w' => e = .returned (.bool true) ∧ Below w.heap.size w w' := by
  have HG := Lib.hid hg
  have HM := Lib.hid hml
  have HSh : Hid (∀ w0, Calls Tryd.prog 9 #[.string seed, .string c, .string m] w0 fun e w' => e = .returned (.bool (decide (seed.size + c.size + m.size ≤ 2000))) ∧ w' = w0) := Lib.hid (fun w0 => shorts_any seed c m w0 hs)
  clear hg hml hs
  by_cases hs : seed.size + c.size + m.size ≤ 2000
  · rw [decide_eq_true hs] at HSh
    by_cases n0 : n = 0
    · have t1 : (n == 0) = true := by rw [beq_iff_eq]; exact n0
      clear n0 hs
      go_enter Tryd.func6, Tryd.ntmps6
      go_wp2_with fail
      refine (small_any _ HG.out HM.out).mono ?_
      rintro e w1 ⟨rfl, hb⟩
      have HB1 := Lib.hid hb
      clear hb
      go_wp2_with fail
      refine (HSh.out _).mono ?_
      rintro e wq ⟨rfl, rfl⟩
      go_wp2_with fail
      go_ret
      exact ⟨rfl, HB1.out⟩
    · have t1 : (n == 0) = false := by rw [beq_eq_false_iff_ne]; exact n0
      by_cases n1 : n < -3
      · have t2 : decide (n < -3) = true := decide_eq_true n1
        clear n0 n1 hs
        go_enter Tryd.func6, Tryd.ntmps6
        go_wp2_with fail
        refine (small_any _ HG.out HM.out).mono ?_
        rintro e w1 ⟨rfl, hb⟩
        have HB1 := Lib.hid hb
        clear hb
        go_wp2_with fail
        refine (HSh.out _).mono ?_
        rintro e wq ⟨rfl, rfl⟩
        go_wp2_with fail
        go_ret
        exact ⟨rfl, HB1.out⟩
      · have t2 : decide (n < -3) = false := decide_eq_false n1
        by_cases n2 : 3 < n
        · have t3 : decide (3 < n) = true := decide_eq_true n2
          clear n0 n1 n2 hs
          go_enter Tryd.func6, Tryd.ntmps6
          go_wp2_with fail
          refine (small_any _ HG.out HM.out).mono ?_
          rintro e w1 ⟨rfl, hb⟩
          have HB1 := Lib.hid hb
          clear hb
          go_wp2_with fail
          refine (HSh.out _).mono ?_
          rintro e wq ⟨rfl, rfl⟩
          go_wp2_with fail
          go_ret
          exact ⟨rfl, HB1.out⟩
        · have t3 : decide (3 < n) = false := decide_eq_false n2
          obtain ⟨k, p, E, S, hF⟩ := rangeFacts seed c m n (by omega) (by omega) (by omega) n0 (by omega) (by omega)
          have HF := Lib.hid hF
          have n1b : -3 ≤ n := by omega
          have n2b : n ≤ 3 := by omega
          clear hF hs n0 n1 n2
          have e0 := HF.out.hE.1
          have e1 := HF.out.hE.2
          have s0 := HF.out.hS.1
          have s1 := HF.out.hS.2
          have p0 := HF.out.hp.1
          have p1 := HF.out.hp.2
          by_cases hn : n < 0
          · have t4 : decide (n < 0) = true := decide_eq_true hn
            have HN := Lib.hid hn
            go_enter Tryd.func6, Tryd.ntmps6
            go_wp2_with fail
            refine (small_any _ HG.out HM.out).mono ?_
            rintro e w1 ⟨rfl, hb⟩
            have HB1 := Lib.hid hb
            clear hb
            go_wp2_with fail
            refine (HSh.out _).mono ?_
            rintro e wq ⟨rfl, rfl⟩
            go_wp2_with fail
            refine (HF.out.key _ (HG.out.below HB1.out HG.out.size) (HM.out.up HB1.out)).mono ?_
            rintro e w2 ⟨rfl, hb⟩
            have HB2 := Lib.hid (HB1.out.trans (hb.mono HB1.out.size))
            clear HB1
            clear hb
            go_upto_region 6 with fail
            have HB3 := Lib.hid (HB2.out.alloc HB2.out.size (.cells #[.int .i64 k, .int .i64 p] 23))
            have Kh3 := Lib.hid (heap_alloc_new w2 (.cells #[.int .i64 k, .int .i64 p] 23))
            clear HB2
            generalize w2.heap.size = bK at *
            generalize w2.alloc (.cells #[.int .i64 k, .int .i64 p] 23) = w3 at *
            have cK0 : w3.cell? ⟨bK, 0, none⟩ = some (.int .i64 k) := (cell_of_row _ _ _ _ _ _ Kh3.out).trans rfl
            have cK1 : w3.cell? ⟨bK, 1, none⟩ = some (.int .i64 p) := (cell_of_row _ _ _ _ _ _ Kh3.out).trans rfl
            go_wp2_with fail
            refine (HF.out.signA _ (HG.out.below HB3.out HG.out.size) (HM.out.up HB3.out)).mono ?_
            rintro e w4 ⟨rfl, hb⟩
            have HB4 := Lib.hid (HB3.out.trans (hb.mono HB3.out.size))
            have Kh4 := Lib.hid (blk_below Kh3.out hb (blk_lt Kh3.out))
            clear cK0 cK1
            clear HB3 Kh3
            clear hb
            have cK0 : w4.cell? ⟨bK, 0, none⟩ = some (.int .i64 k) := (cell_of_row _ _ _ _ _ _ Kh4.out).trans rfl
            have cK1 : w4.cell? ⟨bK, 1, none⟩ = some (.int .i64 p) := (cell_of_row _ _ _ _ _ _ Kh4.out).trans rfl
            go_upto_region 7 with fail
            have HB5 := Lib.hid (HB4.out.alloc HB4.out.size (.cells #[.int .i64 E, .int .i64 S] 25))
            have Sh5 := Lib.hid (heap_alloc_new w4 (.cells #[.int .i64 E, .int .i64 S] 25))
            have Kh5 := Lib.hid (blk_below Kh4.out ((Below.refl w4.heap.size w4).alloc (Nat.le_refl _) (.cells #[.int .i64 E, .int .i64 S] 25)) (blk_lt Kh4.out))
            clear cK0 cK1
            clear HB4 Kh4
            generalize w4.heap.size = bS at *
            generalize w4.alloc (.cells #[.int .i64 E, .int .i64 S] 25) = w5 at *
            have cK0 : w5.cell? ⟨bK, 0, none⟩ = some (.int .i64 k) := (cell_of_row _ _ _ _ _ _ Kh5.out).trans rfl
            have cK1 : w5.cell? ⟨bK, 1, none⟩ = some (.int .i64 p) := (cell_of_row _ _ _ _ _ _ Kh5.out).trans rfl
            have cS0 : w5.cell? ⟨bS, 0, none⟩ = some (.int .i64 E) := (cell_of_row _ _ _ _ _ _ Sh5.out).trans rfl
            have cS1 : w5.cell? ⟨bS, 1, none⟩ = some (.int .i64 S) := (cell_of_row _ _ _ _ _ _ Sh5.out).trans rfl
            go_wp2_with fail
            refine (HF.out.va _).mono ?_
            rintro e w6 ⟨rfl, hb⟩
            have HB6 := Lib.hid (HB5.out.trans (hb.mono HB5.out.size))
            have Kh6 := Lib.hid (blk_below Kh5.out hb (blk_lt Kh5.out))
            have Sh6 := Lib.hid (blk_below Sh5.out hb (blk_lt Sh5.out))
            clear cK0 cK1 cS0 cS1
            clear HB5 Kh5 Sh5
            clear hb
            have cK0 : w6.cell? ⟨bK, 0, none⟩ = some (.int .i64 k) := (cell_of_row _ _ _ _ _ _ Kh6.out).trans rfl
            have cK1 : w6.cell? ⟨bK, 1, none⟩ = some (.int .i64 p) := (cell_of_row _ _ _ _ _ _ Kh6.out).trans rfl
            have cS0 : w6.cell? ⟨bS, 0, none⟩ = some (.int .i64 E) := (cell_of_row _ _ _ _ _ _ Sh6.out).trans rfl
            have cS1 : w6.cell? ⟨bS, 1, none⟩ = some (.int .i64 S) := (cell_of_row _ _ _ _ _ _ Sh6.out).trans rfl
            go_wp2_with fail
            refine (HF.out.vb _).mono ?_
            rintro e w7 ⟨rfl, hb⟩
            have HB7 := Lib.hid (HB6.out.trans (hb.mono HB6.out.size))
            have Kh7 := Lib.hid (blk_below Kh6.out hb (blk_lt Kh6.out))
            have Sh7 := Lib.hid (blk_below Sh6.out hb (blk_lt Sh6.out))
            clear cK0 cK1 cS0 cS1
            clear HB6 Kh6 Sh6
            clear hb
            have cK0 : w7.cell? ⟨bK, 0, none⟩ = some (.int .i64 k) := (cell_of_row _ _ _ _ _ _ Kh7.out).trans rfl
            have cK1 : w7.cell? ⟨bK, 1, none⟩ = some (.int .i64 p) := (cell_of_row _ _ _ _ _ _ Kh7.out).trans rfl
            have cS0 : w7.cell? ⟨bS, 0, none⟩ = some (.int .i64 E) := (cell_of_row _ _ _ _ _ _ Sh7.out).trans rfl
            have cS1 : w7.cell? ⟨bS, 1, none⟩ = some (.int .i64 S) := (cell_of_row _ _ _ _ _ _ Sh7.out).trans rfl
            go_wp2_with fail
            refine (HF.out.vc HN.out _).mono ?_
            rintro e w8 ⟨rfl, hb⟩
            have HB8 := Lib.hid (HB7.out.trans (hb.mono HB7.out.size))
            have Kh8 := Lib.hid (blk_below Kh7.out hb (blk_lt Kh7.out))
            have Sh8 := Lib.hid (blk_below Sh7.out hb (blk_lt Sh7.out))
            clear cK0 cK1 cS0 cS1
            clear HB7 Kh7 Sh7
            clear hb
            have cK0 : w8.cell? ⟨bK, 0, none⟩ = some (.int .i64 k) := (cell_of_row _ _ _ _ _ _ Kh8.out).trans rfl
            have cK1 : w8.cell? ⟨bK, 1, none⟩ = some (.int .i64 p) := (cell_of_row _ _ _ _ _ _ Kh8.out).trans rfl
            have cS0 : w8.cell? ⟨bS, 0, none⟩ = some (.int .i64 E) := (cell_of_row _ _ _ _ _ _ Sh8.out).trans rfl
            have cS1 : w8.cell? ⟨bS, 1, none⟩ = some (.int .i64 S) := (cell_of_row _ _ _ _ _ _ Sh8.out).trans rfl
            go_wp2_with fail
            refine (HF.out.vd _).mono ?_
            rintro e w9 ⟨rfl, hb⟩
            have HB9 := Lib.hid (HB8.out.trans (hb.mono HB8.out.size))
            have Kh9 := Lib.hid (blk_below Kh8.out hb (blk_lt Kh8.out))
            have Sh9 := Lib.hid (blk_below Sh8.out hb (blk_lt Sh8.out))
            clear cK0 cK1 cS0 cS1
            clear HB8 Kh8 Sh8
            clear hb
            have cK0 : w9.cell? ⟨bK, 0, none⟩ = some (.int .i64 k) := (cell_of_row _ _ _ _ _ _ Kh9.out).trans rfl
            have cK1 : w9.cell? ⟨bK, 1, none⟩ = some (.int .i64 p) := (cell_of_row _ _ _ _ _ _ Kh9.out).trans rfl
            have cS0 : w9.cell? ⟨bS, 0, none⟩ = some (.int .i64 E) := (cell_of_row _ _ _ _ _ _ Sh9.out).trans rfl
            have cS1 : w9.cell? ⟨bS, 1, none⟩ = some (.int .i64 S) := (cell_of_row _ _ _ _ _ _ Sh9.out).trans rfl
            go_wp2_with fail
            go_ret
            exact ⟨rfl, HB9.out⟩
          · have t4 : decide (n < 0) = false := decide_eq_false hn
            clear hn
            go_enter Tryd.func6, Tryd.ntmps6
            go_wp2_with fail
            refine (small_any _ HG.out HM.out).mono ?_
            rintro e w1 ⟨rfl, hb⟩
            have HB1 := Lib.hid hb
            clear hb
            go_wp2_with fail
            refine (HSh.out _).mono ?_
            rintro e wq ⟨rfl, rfl⟩
            go_wp2_with fail
            refine (HF.out.key _ (HG.out.below HB1.out HG.out.size) (HM.out.up HB1.out)).mono ?_
            rintro e w2 ⟨rfl, hb⟩
            have HB2 := Lib.hid (HB1.out.trans (hb.mono HB1.out.size))
            clear HB1
            clear hb
            go_upto_region 6 with fail
            have HB3 := Lib.hid (HB2.out.alloc HB2.out.size (.cells #[.int .i64 k, .int .i64 p] 23))
            have Kh3 := Lib.hid (heap_alloc_new w2 (.cells #[.int .i64 k, .int .i64 p] 23))
            clear HB2
            generalize w2.heap.size = bK at *
            generalize w2.alloc (.cells #[.int .i64 k, .int .i64 p] 23) = w3 at *
            have cK0 : w3.cell? ⟨bK, 0, none⟩ = some (.int .i64 k) := (cell_of_row _ _ _ _ _ _ Kh3.out).trans rfl
            have cK1 : w3.cell? ⟨bK, 1, none⟩ = some (.int .i64 p) := (cell_of_row _ _ _ _ _ _ Kh3.out).trans rfl
            go_wp2_with fail
            refine (HF.out.signA _ (HG.out.below HB3.out HG.out.size) (HM.out.up HB3.out)).mono ?_
            rintro e w4 ⟨rfl, hb⟩
            have HB4 := Lib.hid (HB3.out.trans (hb.mono HB3.out.size))
            have Kh4 := Lib.hid (blk_below Kh3.out hb (blk_lt Kh3.out))
            clear cK0 cK1
            clear HB3 Kh3
            clear hb
            have cK0 : w4.cell? ⟨bK, 0, none⟩ = some (.int .i64 k) := (cell_of_row _ _ _ _ _ _ Kh4.out).trans rfl
            have cK1 : w4.cell? ⟨bK, 1, none⟩ = some (.int .i64 p) := (cell_of_row _ _ _ _ _ _ Kh4.out).trans rfl
            go_upto_region 7 with fail
            have HB5 := Lib.hid (HB4.out.alloc HB4.out.size (.cells #[.int .i64 E, .int .i64 S] 25))
            have Sh5 := Lib.hid (heap_alloc_new w4 (.cells #[.int .i64 E, .int .i64 S] 25))
            have Kh5 := Lib.hid (blk_below Kh4.out ((Below.refl w4.heap.size w4).alloc (Nat.le_refl _) (.cells #[.int .i64 E, .int .i64 S] 25)) (blk_lt Kh4.out))
            clear cK0 cK1
            clear HB4 Kh4
            generalize w4.heap.size = bS at *
            generalize w4.alloc (.cells #[.int .i64 E, .int .i64 S] 25) = w5 at *
            have cK0 : w5.cell? ⟨bK, 0, none⟩ = some (.int .i64 k) := (cell_of_row _ _ _ _ _ _ Kh5.out).trans rfl
            have cK1 : w5.cell? ⟨bK, 1, none⟩ = some (.int .i64 p) := (cell_of_row _ _ _ _ _ _ Kh5.out).trans rfl
            have cS0 : w5.cell? ⟨bS, 0, none⟩ = some (.int .i64 E) := (cell_of_row _ _ _ _ _ _ Sh5.out).trans rfl
            have cS1 : w5.cell? ⟨bS, 1, none⟩ = some (.int .i64 S) := (cell_of_row _ _ _ _ _ _ Sh5.out).trans rfl
            go_wp2_with fail
            refine (HF.out.va _).mono ?_
            rintro e w6 ⟨rfl, hb⟩
            have HB6 := Lib.hid (HB5.out.trans (hb.mono HB5.out.size))
            have Kh6 := Lib.hid (blk_below Kh5.out hb (blk_lt Kh5.out))
            have Sh6 := Lib.hid (blk_below Sh5.out hb (blk_lt Sh5.out))
            clear cK0 cK1 cS0 cS1
            clear HB5 Kh5 Sh5
            clear hb
            have cK0 : w6.cell? ⟨bK, 0, none⟩ = some (.int .i64 k) := (cell_of_row _ _ _ _ _ _ Kh6.out).trans rfl
            have cK1 : w6.cell? ⟨bK, 1, none⟩ = some (.int .i64 p) := (cell_of_row _ _ _ _ _ _ Kh6.out).trans rfl
            have cS0 : w6.cell? ⟨bS, 0, none⟩ = some (.int .i64 E) := (cell_of_row _ _ _ _ _ _ Sh6.out).trans rfl
            have cS1 : w6.cell? ⟨bS, 1, none⟩ = some (.int .i64 S) := (cell_of_row _ _ _ _ _ _ Sh6.out).trans rfl
            go_wp2_with fail
            refine (HF.out.vb _).mono ?_
            rintro e w7 ⟨rfl, hb⟩
            have HB7 := Lib.hid (HB6.out.trans (hb.mono HB6.out.size))
            have Kh7 := Lib.hid (blk_below Kh6.out hb (blk_lt Kh6.out))
            have Sh7 := Lib.hid (blk_below Sh6.out hb (blk_lt Sh6.out))
            clear cK0 cK1 cS0 cS1
            clear HB6 Kh6 Sh6
            clear hb
            have cK0 : w7.cell? ⟨bK, 0, none⟩ = some (.int .i64 k) := (cell_of_row _ _ _ _ _ _ Kh7.out).trans rfl
            have cK1 : w7.cell? ⟨bK, 1, none⟩ = some (.int .i64 p) := (cell_of_row _ _ _ _ _ _ Kh7.out).trans rfl
            have cS0 : w7.cell? ⟨bS, 0, none⟩ = some (.int .i64 E) := (cell_of_row _ _ _ _ _ _ Sh7.out).trans rfl
            have cS1 : w7.cell? ⟨bS, 1, none⟩ = some (.int .i64 S) := (cell_of_row _ _ _ _ _ _ Sh7.out).trans rfl
            go_wp2_with fail
            refine (HF.out.vd _).mono ?_
            rintro e w8 ⟨rfl, hb⟩
            have HB8 := Lib.hid (HB7.out.trans (hb.mono HB7.out.size))
            have Kh8 := Lib.hid (blk_below Kh7.out hb (blk_lt Kh7.out))
            have Sh8 := Lib.hid (blk_below Sh7.out hb (blk_lt Sh7.out))
            clear cK0 cK1 cS0 cS1
            clear HB7 Kh7 Sh7
            clear hb
            have cK0 : w8.cell? ⟨bK, 0, none⟩ = some (.int .i64 k) := (cell_of_row _ _ _ _ _ _ Kh8.out).trans rfl
            have cK1 : w8.cell? ⟨bK, 1, none⟩ = some (.int .i64 p) := (cell_of_row _ _ _ _ _ _ Kh8.out).trans rfl
            have cS0 : w8.cell? ⟨bS, 0, none⟩ = some (.int .i64 E) := (cell_of_row _ _ _ _ _ _ Sh8.out).trans rfl
            have cS1 : w8.cell? ⟨bS, 1, none⟩ = some (.int .i64 S) := (cell_of_row _ _ _ _ _ _ Sh8.out).trans rfl
            go_wp2_with fail
            go_ret
            exact ⟨rfl, HB8.out⟩
  · rw [decide_eq_false hs] at HSh
    clear hs
    go_enter Tryd.func6, Tryd.ntmps6
    go_wp2_with fail
    refine (small_any _ HG.out HM.out).mono ?_
    rintro e w1 ⟨rfl, hb⟩
    have HB1 := Lib.hid hb
    clear hb
    go_wp2_with fail
    refine (HSh.out _).mono ?_
    rintro e wq ⟨rfl, rfl⟩
    go_wp2_with fail
    go_ret
    exact ⟨rfl, HB1.out⟩
end Go.Proofs.YtnomicccdhilbaaDoor
