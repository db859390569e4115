/- bournelaw05.SignBinds returns true. -/
import Derived.Test.YtnomicccdhilbaaDoorSSmall
import Derived.Test.YtnomicccdhilbaaDoorSRef5
import Derived.Outline
namespace Go.Proofs.YtnomicccdhilbaaDoor
open Go.RowKit
structure BindFacts (seed c m c2 m2 : ByteArray) (k p E S r y : Int) : Prop where
  key : ∀ w, Glob w → MLen w → Calls Tryd.prog 10 #[.string seed] w fun e w' => e = .returned (.agg #[.int .i64 k, .int .i64 p]) ∧ Below w.heap.size w w'
  signA : ∀ w, Glob w → MLen w → Calls Tryd.prog 16 #[.agg #[.int .i64 k, .int .i64 p], .string c, .string m] w fun e w' => e = .returned (.agg #[.int .i64 E, .int .i64 S]) ∧ Below w.heap.size w w'
  elem : ∀ w, Calls Tryd.prog 20 #[.int .i64 p, .agg #[.int .i64 E, .int .i64 S]] w fun e w' => e = .returned (.int .i64 r) ∧ Below w.heap.size w w'
  chal : ∀ w, Calls Tryd.prog 21 #[.int .i64 r, .int .i64 p, .string c2, .string m2] w fun e w' => e = .returned (.int .i64 y) ∧ Below w.heap.size w w'
  ver : ∀ w, Glob w → MLen w → Calls Tryd.prog 18 #[.int .i64 p, .string c2, .string m2, .agg #[.int .i64 E, .int .i64 S]] w fun e w' => e = .returned (.bool (y == E)) ∧ Below w.heap.size w w'
theorem i64_pubB (x : Nat) : I64 ((pubN x : Nat) : Int) := ⟨by have := (pub_in x).1; omega, by have := (pub_in x).2.1; omega⟩
theorem bindFacts (seed c m c2 m2 : ByteArray) (h1 : seed.size ≤ 2000) (h2 : c.size ≤ 2000) (h3 : m.size ≤ 2000) (h4 : c2.size ≤ 2000) (h5 : m2.size ≤ 2000) :
    ∃ k p E S r y, BindFacts seed c m c2 m2 k p E S r y := by
  have hk := keyN_bd seed.data.toList
  have hE := sgE_lt (keyN seed.data.toList) c.data.toList m.data.toList
  have hS := sgS_lt (keyN seed.data.toList) c.data.toList m.data.toList
  have hr : elemN (pubN (keyN seed.data.toList) : Nat) (sgE (keyN seed.data.toList) c.data.toList m.data.toList : Nat) (sgS (keyN seed.data.toList) c.data.toList m.data.toList : Nat) < 2305843009213691579 := lt_p _
  refine ⟨_, _, _, _, _, _, ⟨fun w hg hm => key_any seed w h1 hg hm, fun w hg hm => sign_yes _ c m w hk.1 hk.2 h2 h3 hg hm, fun w => relem_any _ _ _ w (pub_in _) ⟨by omega, by omega⟩ ⟨by omega, by omega⟩, fun w => rchal_any _ _ c2 m2 w ⟨by omega, by omega⟩ (i64_pubB _) h4 h5, fun w hg hm => ?_⟩⟩
  have h := verify_any (pubN (keyN seed.data.toList) : Nat) (sgE (keyN seed.data.toList) c.data.toList m.data.toList : Nat) (sgS (keyN seed.data.toList) c.data.toList m.data.toList : Nat) c2 m2 w (i64_pubB _) h4 h5 hg hm
  have e : decide (VerOk (pubN (keyN seed.data.toList) : Nat) (sgE (keyN seed.data.toList) c.data.toList m.data.toList : Nat) (sgS (keyN seed.data.toList) c.data.toList m.data.toList : Nat) c2.data.toList m2.data.toList) = (((chalN (elemN (pubN (keyN seed.data.toList) : Nat) (sgE (keyN seed.data.toList) c.data.toList m.data.toList : Nat) (sgS (keyN seed.data.toList) c.data.toList m.data.toList : Nat) : Nat) (pubN (keyN seed.data.toList) : Nat) c2.data.toList m2.data.toList : Nat) : Int) == (sgE (keyN seed.data.toList) c.data.toList m.data.toList : Nat)) := by
    rw [Bool.eq_iff_iff, decide_eq_true_iff, beq_iff_eq]
    exact ⟨fun g => g.2.2.2.2, fun g => ⟨pub_ne hk.1 hk.2, pub_in _, ⟨by omega, by omega⟩, ⟨by omega, by omega⟩, g⟩⟩
  rw [e] at h
  exact h
theorem bind_step {w cur w' : World} {k0 k1 : Nat} {A0 A1 : Obj} {v0 v1 v2 : Value} (h : cur.heap[k0]? = some A0 ∧ cur.heap[k1]? = some A1 ∧ cur.cell? ⟨k0, 1, none⟩ = some v0 ∧ cur.cell? ⟨k1, 0, none⟩ = some v1 ∧ cur.cell? ⟨k1, 1, none⟩ = some v2 ∧ Below w.heap.size w cur) (hb : Below cur.heap.size cur w') : w'.heap[k0]? = some A0 ∧ w'.heap[k1]? = some A1 ∧ w'.cell? ⟨k0, 1, none⟩ = some v0 ∧ w'.cell? ⟨k1, 0, none⟩ = some v1 ∧ w'.cell? ⟨k1, 1, none⟩ = some v2 ∧ Below w.heap.size w w' := by
  obtain ⟨a0, a1, c0, c1, c2, d⟩ := h
  exact ⟨blk_below a0 hb (blk_lt a0), blk_below a1 hb (blk_lt a1), (hb.cell (p := ⟨_, 1, none⟩) (blk_lt a0)).trans c0, (hb.cell (p := ⟨_, 0, none⟩) (blk_lt a1)).trans c1, (hb.cell (p := ⟨_, 1, none⟩) (blk_lt a1)).trans c2, d.trans (hb.mono d.size)⟩
theorem bind_stepN {w cur : World} {k0 k1 : Nat} {A0 A1 : Obj} {v0 v1 v2 : Value} (h : cur.heap[k0]? = some A0 ∧ cur.heap[k1]? = some A1 ∧ cur.cell? ⟨k0, 1, none⟩ = some v0 ∧ cur.cell? ⟨k1, 0, none⟩ = some v1 ∧ cur.cell? ⟨k1, 1, none⟩ = some v2 ∧ Below w.heap.size w cur) (n : Nat) : (cur.drewN n).heap[k0]? = some A0 ∧ (cur.drewN n).heap[k1]? = some A1 ∧ (cur.drewN n).cell? ⟨k0, 1, none⟩ = some v0 ∧ (cur.drewN n).cell? ⟨k1, 0, none⟩ = some v1 ∧ (cur.drewN n).cell? ⟨k1, 1, none⟩ = some v2 ∧ Below w.heap.size w (cur.drewN n) := by
  obtain ⟨a0, a1, c0, c1, c2, d⟩ := h
  exact ⟨a0, a1, c0, c1, c2, below_drewN d⟩
set_option maxRecDepth 100000 in
set_option maxHeartbeats 8000000 in
theorem binds_core (seed c m c2 m2 : ByteArray) (w : World) (hg : Glob w) (hml : MLen w) (hs : seed.size + c.size + m.size + c2.size + m2.size ≤ 4611686018427387904) :
    Calls Tryd.prog 5 #[.string seed, .string c, .string m, .string c2, .string m2] w fun e w' => e = .returned (.bool true) ∧ Below w.heap.size w w' := by
  have HG := Lib.hid hg
  have HM := Lib.hid hml
  have HSh : Hid (∀ w0, Calls Tryd.prog 9 #[.string seed, .string c, .string m] w0 fun e w' => e = .returned (.bool (decide (seed.size + c.size + m.size ≤ 2000))) ∧ w' = w0) := Lib.hid (fun w0 => shorts_any seed c m w0 (by omega))
  have HSi : Hid (∀ w0, Calls Tryd.prog 9 #[.string c2, .string m2, .string ⟨#[]⟩] w0 fun e w' => e = .returned (.bool (decide (c2.size + m2.size + (⟨#[]⟩ : ByteArray).size ≤ 2000))) ∧ w' = w0) := Lib.hid (fun w0 => shorts_any c2 m2 ⟨#[]⟩ w0 (by show c2.size + m2.size + 0 ≤ _; omega))
  clear hg hml hs
  by_cases hs : seed.size + c.size + m.size ≤ 2000
  · rw [decide_eq_true hs] at HSh
    by_cases hs2 : c2.size + m2.size + (⟨#[]⟩ : ByteArray).size ≤ 2000
    · rw [decide_eq_true hs2] at HSi
      have hs3 : c2.size + m2.size + 0 ≤ 2000 := hs2
      obtain ⟨k, p, E, S, r, y, hF⟩ := bindFacts seed c m c2 m2 (by omega) (by omega) (by omega) (by omega) (by omega)
      have HF := Lib.hid hF
      clear hF hs hs2 hs3
      cases hyE : (y == E) with
      | true =>
        have HV : Hid (∀ w, Glob w → MLen w → Calls Tryd.prog 18 #[.int .i64 p, .string c2, .string m2, .agg #[.int .i64 E, .int .i64 S]] w fun e w' => e = .returned (.bool true) ∧ Below w.heap.size w w') := Lib.hid (by rw [← hyE]; exact HF.out.ver)
        go_enter Tryd.func5, Tryd.ntmps5
        go_wp2_with fail
        refine (small_any _ HG.out HM.out).mono ?_
        rintro e w1 ⟨rfl, hb⟩
        have HB1 := Lib.hid hb
        clear hb
        go_wp2_with fail
        refine (HSh.out _).mono ?_
        rintro e wq ⟨rfl, rfl⟩
        go_wp2_with fail
        refine (HSi.out _).mono ?_
        rintro e wr ⟨rfl, rfl⟩
        go_wp2_with fail
        refine (HF.out.key _ (HG.out.below HB1.out HG.out.size) (HM.out.up HB1.out)).mono ?_
        rintro e w2 ⟨rfl, hb⟩
        have HB2 := Lib.hid (HB1.out.trans (hb.mono HB1.out.size))
        clear HB1
        clear hb
        go_upto_region 7 with fail
        have HB3 := Lib.hid (HB2.out.alloc HB2.out.size (.cells #[.int .i64 k, .int .i64 p] 23))
        have Kh3 := Lib.hid (heap_alloc_new w2 (.cells #[.int .i64 k, .int .i64 p] 23))
        clear HB2
        generalize w2.heap.size = bK at *
        generalize w2.alloc (.cells #[.int .i64 k, .int .i64 p] 23) = w3 at *
        have cK0 : w3.cell? ⟨bK, 0, none⟩ = some (.int .i64 k) := (cell_of_row _ _ _ _ _ _ Kh3.out).trans rfl
        have cK1 : w3.cell? ⟨bK, 1, none⟩ = some (.int .i64 p) := (cell_of_row _ _ _ _ _ _ Kh3.out).trans rfl
        go_wp2_with fail
        refine (HF.out.signA _ (HG.out.below HB3.out HG.out.size) (HM.out.up HB3.out)).mono ?_
        rintro e w4 ⟨rfl, hb⟩
        have HB4 := Lib.hid (HB3.out.trans (hb.mono HB3.out.size))
        have Kh4 := Lib.hid (blk_below Kh3.out hb (blk_lt Kh3.out))
        clear cK0 cK1
        clear HB3 Kh3
        clear hb
        have cK0 : w4.cell? ⟨bK, 0, none⟩ = some (.int .i64 k) := (cell_of_row _ _ _ _ _ _ Kh4.out).trans rfl
        have cK1 : w4.cell? ⟨bK, 1, none⟩ = some (.int .i64 p) := (cell_of_row _ _ _ _ _ _ Kh4.out).trans rfl
        go_upto_region 8 with fail
        have HB5 := Lib.hid (HB4.out.alloc HB4.out.size (.cells #[.int .i64 E, .int .i64 S] 25))
        have Sh5 := Lib.hid (heap_alloc_new w4 (.cells #[.int .i64 E, .int .i64 S] 25))
        have Kh5 := Lib.hid (blk_below Kh4.out ((Below.refl w4.heap.size w4).alloc (Nat.le_refl _) (.cells #[.int .i64 E, .int .i64 S] 25)) (blk_lt Kh4.out))
        clear cK0 cK1
        clear HB4 Kh4
        generalize w4.heap.size = bS at *
        generalize w4.alloc (.cells #[.int .i64 E, .int .i64 S] 25) = w5 at *
        have cK0 : w5.cell? ⟨bK, 0, none⟩ = some (.int .i64 k) := (cell_of_row _ _ _ _ _ _ Kh5.out).trans rfl
        have cK1 : w5.cell? ⟨bK, 1, none⟩ = some (.int .i64 p) := (cell_of_row _ _ _ _ _ _ Kh5.out).trans rfl
        have cS0 : w5.cell? ⟨bS, 0, none⟩ = some (.int .i64 E) := (cell_of_row _ _ _ _ _ _ Sh5.out).trans rfl
        have cS1 : w5.cell? ⟨bS, 1, none⟩ = some (.int .i64 S) := (cell_of_row _ _ _ _ _ _ Sh5.out).trans rfl
        go_wp2_with fail
        refine (HF.out.elem _).mono ?_
        rintro e w6 ⟨rfl, hb⟩
        have HB6 := Lib.hid (HB5.out.trans (hb.mono HB5.out.size))
        have Kh6 := Lib.hid (blk_below Kh5.out hb (blk_lt Kh5.out))
        have Sh6 := Lib.hid (blk_below Sh5.out hb (blk_lt Sh5.out))
        clear cK0 cK1 cS0 cS1
        clear HB5 Kh5 Sh5
        clear hb
        have cK0 : w6.cell? ⟨bK, 0, none⟩ = some (.int .i64 k) := (cell_of_row _ _ _ _ _ _ Kh6.out).trans rfl
        have cK1 : w6.cell? ⟨bK, 1, none⟩ = some (.int .i64 p) := (cell_of_row _ _ _ _ _ _ Kh6.out).trans rfl
        have cS0 : w6.cell? ⟨bS, 0, none⟩ = some (.int .i64 E) := (cell_of_row _ _ _ _ _ _ Sh6.out).trans rfl
        have cS1 : w6.cell? ⟨bS, 1, none⟩ = some (.int .i64 S) := (cell_of_row _ _ _ _ _ _ Sh6.out).trans rfl
        go_upto_region 9 with fail
        clear cK0 cK1 cS0 cS1
        have HS0 : Hid (w6.heap[bK]? = some (.cells #[.int .i64 k, .int .i64 p] 23) ∧ w6.heap[bS]? = some (.cells #[.int .i64 E, .int .i64 S] 25) ∧ w6.cell? ⟨bK, 1, none⟩ = some (.int .i64 p) ∧ w6.cell? ⟨bS, 0, none⟩ = some (.int .i64 E) ∧ w6.cell? ⟨bS, 1, none⟩ = some (.int .i64 S) ∧ Below w.heap.size w w6) := Lib.hid ⟨Kh6.out, Sh6.out, (cell_of_row _ _ _ _ _ _ Kh6.out).trans rfl, (cell_of_row _ _ _ _ _ _ Sh6.out).trans rfl, (cell_of_row _ _ _ _ _ _ Sh6.out).trans rfl, HB6.out⟩
        clear Kh6 Sh6 HB6
        go_region_held3 (fun w' => w'.heap[bK]? = some (.cells #[.int .i64 k, .int .i64 p] 23) ∧ w'.heap[bS]? = some (.cells #[.int .i64 E, .int .i64 S] 25) ∧ w'.cell? ⟨bK, 1, none⟩ = some (.int .i64 p) ∧ w'.cell? ⟨bS, 0, none⟩ = some (.int .i64 E) ∧ w'.cell? ⟨bS, 1, none⟩ = some (.int .i64 S) ∧ Below w.heap.size w w') (first | assumption | exact HS0.out | exact bind_step (by assumption) hb | exact bind_stepN (by assumption) _) ((first | (go_at_call 21; refine (HF.out.chal _).mono ?_; rintro e w' ⟨rfl, hb⟩)))
        rename World => w7
        rename _ ∧ _ => hFin
        obtain ⟨qK, qS, -, -, -, qBel⟩ := hFin
        have Kh7 := Lib.hid qK
        have Sh7 := Lib.hid qS
        have HB7 := Lib.hid qBel
        clear HS0 qBel qK qS
        have cK0 : w7.cell? ⟨bK, 0, none⟩ = some (.int .i64 k) := (cell_of_row _ _ _ _ _ _ Kh7.out).trans rfl
        have cK1 : w7.cell? ⟨bK, 1, none⟩ = some (.int .i64 p) := (cell_of_row _ _ _ _ _ _ Kh7.out).trans rfl
        have cS0 : w7.cell? ⟨bS, 0, none⟩ = some (.int .i64 E) := (cell_of_row _ _ _ _ _ _ Sh7.out).trans rfl
        have cS1 : w7.cell? ⟨bS, 1, none⟩ = some (.int .i64 S) := (cell_of_row _ _ _ _ _ _ Sh7.out).trans rfl
        go_wp2_with fail
        refine (HV.out _ (HG.out.below HB7.out HG.out.size) (HM.out.up HB7.out)).mono ?_
        rintro e w8 ⟨rfl, hb⟩
        have HB8 := Lib.hid (HB7.out.trans (hb.mono HB7.out.size))
        have Kh8 := Lib.hid (blk_below Kh7.out hb (blk_lt Kh7.out))
        have Sh8 := Lib.hid (blk_below Sh7.out hb (blk_lt Sh7.out))
        clear cK0 cK1 cS0 cS1
        clear HB7 Kh7 Sh7
        clear hb
        have cK0 : w8.cell? ⟨bK, 0, none⟩ = some (.int .i64 k) := (cell_of_row _ _ _ _ _ _ Kh8.out).trans rfl
        have cK1 : w8.cell? ⟨bK, 1, none⟩ = some (.int .i64 p) := (cell_of_row _ _ _ _ _ _ Kh8.out).trans rfl
        have cS0 : w8.cell? ⟨bS, 0, none⟩ = some (.int .i64 E) := (cell_of_row _ _ _ _ _ _ Sh8.out).trans rfl
        have cS1 : w8.cell? ⟨bS, 1, none⟩ = some (.int .i64 S) := (cell_of_row _ _ _ _ _ _ Sh8.out).trans rfl
        go_wp2_with fail
        go_ret
        exact ⟨rfl, HB8.out⟩
      | false =>
        have HV : Hid (∀ w, Glob w → MLen w → Calls Tryd.prog 18 #[.int .i64 p, .string c2, .string m2, .agg #[.int .i64 E, .int .i64 S]] w fun e w' => e = .returned (.bool false) ∧ Below w.heap.size w w') := Lib.hid (by rw [← hyE]; exact HF.out.ver)
        go_enter Tryd.func5, Tryd.ntmps5
        go_wp2_with fail
        refine (small_any _ HG.out HM.out).mono ?_
        rintro e w1 ⟨rfl, hb⟩
        have HB1 := Lib.hid hb
        clear hb
        go_wp2_with fail
        refine (HSh.out _).mono ?_
        rintro e wq ⟨rfl, rfl⟩
        go_wp2_with fail
        refine (HSi.out _).mono ?_
        rintro e wr ⟨rfl, rfl⟩
        go_wp2_with fail
        refine (HF.out.key _ (HG.out.below HB1.out HG.out.size) (HM.out.up HB1.out)).mono ?_
        rintro e w2 ⟨rfl, hb⟩
        have HB2 := Lib.hid (HB1.out.trans (hb.mono HB1.out.size))
        clear HB1
        clear hb
        go_upto_region 7 with fail
        have HB3 := Lib.hid (HB2.out.alloc HB2.out.size (.cells #[.int .i64 k, .int .i64 p] 23))
        have Kh3 := Lib.hid (heap_alloc_new w2 (.cells #[.int .i64 k, .int .i64 p] 23))
        clear HB2
        generalize w2.heap.size = bK at *
        generalize w2.alloc (.cells #[.int .i64 k, .int .i64 p] 23) = w3 at *
        have cK0 : w3.cell? ⟨bK, 0, none⟩ = some (.int .i64 k) := (cell_of_row _ _ _ _ _ _ Kh3.out).trans rfl
        have cK1 : w3.cell? ⟨bK, 1, none⟩ = some (.int .i64 p) := (cell_of_row _ _ _ _ _ _ Kh3.out).trans rfl
        go_wp2_with fail
        refine (HF.out.signA _ (HG.out.below HB3.out HG.out.size) (HM.out.up HB3.out)).mono ?_
        rintro e w4 ⟨rfl, hb⟩
        have HB4 := Lib.hid (HB3.out.trans (hb.mono HB3.out.size))
        have Kh4 := Lib.hid (blk_below Kh3.out hb (blk_lt Kh3.out))
        clear cK0 cK1
        clear HB3 Kh3
        clear hb
        have cK0 : w4.cell? ⟨bK, 0, none⟩ = some (.int .i64 k) := (cell_of_row _ _ _ _ _ _ Kh4.out).trans rfl
        have cK1 : w4.cell? ⟨bK, 1, none⟩ = some (.int .i64 p) := (cell_of_row _ _ _ _ _ _ Kh4.out).trans rfl
        go_upto_region 8 with fail
        have HB5 := Lib.hid (HB4.out.alloc HB4.out.size (.cells #[.int .i64 E, .int .i64 S] 25))
        have Sh5 := Lib.hid (heap_alloc_new w4 (.cells #[.int .i64 E, .int .i64 S] 25))
        have Kh5 := Lib.hid (blk_below Kh4.out ((Below.refl w4.heap.size w4).alloc (Nat.le_refl _) (.cells #[.int .i64 E, .int .i64 S] 25)) (blk_lt Kh4.out))
        clear cK0 cK1
        clear HB4 Kh4
        generalize w4.heap.size = bS at *
        generalize w4.alloc (.cells #[.int .i64 E, .int .i64 S] 25) = w5 at *
        have cK0 : w5.cell? ⟨bK, 0, none⟩ = some (.int .i64 k) := (cell_of_row _ _ _ _ _ _ Kh5.out).trans rfl
        have cK1 : w5.cell? ⟨bK, 1, none⟩ = some (.int .i64 p) := (cell_of_row _ _ _ _ _ _ Kh5.out).trans rfl
        have cS0 : w5.cell? ⟨bS, 0, none⟩ = some (.int .i64 E) := (cell_of_row _ _ _ _ _ _ Sh5.out).trans rfl
        have cS1 : w5.cell? ⟨bS, 1, none⟩ = some (.int .i64 S) := (cell_of_row _ _ _ _ _ _ Sh5.out).trans rfl
        go_wp2_with fail
        refine (HF.out.elem _).mono ?_
        rintro e w6 ⟨rfl, hb⟩
        have HB6 := Lib.hid (HB5.out.trans (hb.mono HB5.out.size))
        have Kh6 := Lib.hid (blk_below Kh5.out hb (blk_lt Kh5.out))
        have Sh6 := Lib.hid (blk_below Sh5.out hb (blk_lt Sh5.out))
        clear cK0 cK1 cS0 cS1
        clear HB5 Kh5 Sh5
        clear hb
        have cK0 : w6.cell? ⟨bK, 0, none⟩ = some (.int .i64 k) := (cell_of_row _ _ _ _ _ _ Kh6.out).trans rfl
        have cK1 : w6.cell? ⟨bK, 1, none⟩ = some (.int .i64 p) := (cell_of_row _ _ _ _ _ _ Kh6.out).trans rfl
        have cS0 : w6.cell? ⟨bS, 0, none⟩ = some (.int .i64 E) := (cell_of_row _ _ _ _ _ _ Sh6.out).trans rfl
        have cS1 : w6.cell? ⟨bS, 1, none⟩ = some (.int .i64 S) := (cell_of_row _ _ _ _ _ _ Sh6.out).trans rfl
        go_upto_region 9 with fail
        clear cK0 cK1 cS0 cS1
        have HS0 : Hid (w6.heap[bK]? = some (.cells #[.int .i64 k, .int .i64 p] 23) ∧ w6.heap[bS]? = some (.cells #[.int .i64 E, .int .i64 S] 25) ∧ w6.cell? ⟨bK, 1, none⟩ = some (.int .i64 p) ∧ w6.cell? ⟨bS, 0, none⟩ = some (.int .i64 E) ∧ w6.cell? ⟨bS, 1, none⟩ = some (.int .i64 S) ∧ Below w.heap.size w w6) := Lib.hid ⟨Kh6.out, Sh6.out, (cell_of_row _ _ _ _ _ _ Kh6.out).trans rfl, (cell_of_row _ _ _ _ _ _ Sh6.out).trans rfl, (cell_of_row _ _ _ _ _ _ Sh6.out).trans rfl, HB6.out⟩
        clear Kh6 Sh6 HB6
        go_region_held3 (fun w' => w'.heap[bK]? = some (.cells #[.int .i64 k, .int .i64 p] 23) ∧ w'.heap[bS]? = some (.cells #[.int .i64 E, .int .i64 S] 25) ∧ w'.cell? ⟨bK, 1, none⟩ = some (.int .i64 p) ∧ w'.cell? ⟨bS, 0, none⟩ = some (.int .i64 E) ∧ w'.cell? ⟨bS, 1, none⟩ = some (.int .i64 S) ∧ Below w.heap.size w w') (first | assumption | exact HS0.out | exact bind_step (by assumption) hb | exact bind_stepN (by assumption) _) ((first | (go_at_call 21; refine (HF.out.chal _).mono ?_; rintro e w' ⟨rfl, hb⟩)))
        rename World => w7
        rename _ ∧ _ => hFin
        obtain ⟨qK, qS, -, -, -, qBel⟩ := hFin
        have Kh7 := Lib.hid qK
        have Sh7 := Lib.hid qS
        have HB7 := Lib.hid qBel
        clear HS0 qBel qK qS
        have cK0 : w7.cell? ⟨bK, 0, none⟩ = some (.int .i64 k) := (cell_of_row _ _ _ _ _ _ Kh7.out).trans rfl
        have cK1 : w7.cell? ⟨bK, 1, none⟩ = some (.int .i64 p) := (cell_of_row _ _ _ _ _ _ Kh7.out).trans rfl
        have cS0 : w7.cell? ⟨bS, 0, none⟩ = some (.int .i64 E) := (cell_of_row _ _ _ _ _ _ Sh7.out).trans rfl
        have cS1 : w7.cell? ⟨bS, 1, none⟩ = some (.int .i64 S) := (cell_of_row _ _ _ _ _ _ Sh7.out).trans rfl
        go_wp2_with fail
        refine (HV.out _ (HG.out.below HB7.out HG.out.size) (HM.out.up HB7.out)).mono ?_
        rintro e w8 ⟨rfl, hb⟩
        have HB8 := Lib.hid (HB7.out.trans (hb.mono HB7.out.size))
        have Kh8 := Lib.hid (blk_below Kh7.out hb (blk_lt Kh7.out))
        have Sh8 := Lib.hid (blk_below Sh7.out hb (blk_lt Sh7.out))
        clear cK0 cK1 cS0 cS1
        clear HB7 Kh7 Sh7
        clear hb
        have cK0 : w8.cell? ⟨bK, 0, none⟩ = some (.int .i64 k) := (cell_of_row _ _ _ _ _ _ Kh8.out).trans rfl
        have cK1 : w8.cell? ⟨bK, 1, none⟩ = some (.int .i64 p) := (cell_of_row _ _ _ _ _ _ Kh8.out).trans rfl
        have cS0 : w8.cell? ⟨bS, 0, none⟩ = some (.int .i64 E) := (cell_of_row _ _ _ _ _ _ Sh8.out).trans rfl
        have cS1 : w8.cell? ⟨bS, 1, none⟩ = some (.int .i64 S) := (cell_of_row _ _ _ _ _ _ Sh8.out).trans rfl
        go_wp2_with fail
        go_ret
        exact ⟨rfl, HB8.out⟩
    · rw [decide_eq_false hs2] at HSi
      clear hs hs2
      go_enter Tryd.func5, Tryd.ntmps5
      go_wp2_with fail
      refine (small_any _ HG.out HM.out).mono ?_
      rintro e w1 ⟨rfl, hb⟩
      have HB1 := Lib.hid hb
      clear hb
      go_wp2_with fail
      refine (HSh.out _).mono ?_
      rintro e wq ⟨rfl, rfl⟩
      go_wp2_with fail
      refine (HSi.out _).mono ?_
      rintro e wr ⟨rfl, rfl⟩
      go_wp2_with fail
      go_ret
      exact ⟨rfl, HB1.out⟩
  · rw [decide_eq_false hs] at HSh
    clear hs
    generalize decide (c2.size + m2.size + (⟨#[]⟩ : ByteArray).size ≤ 2000) = q2 at *
    go_enter Tryd.func5, Tryd.ntmps5
    go_wp2_with fail
    refine (small_any _ HG.out HM.out).mono ?_
    rintro e w1 ⟨rfl, hb⟩
    have HB1 := Lib.hid hb
    clear hb
    go_wp2_with fail
    refine (HSh.out _).mono ?_
    rintro e wq ⟨rfl, rfl⟩
    go_wp2_with fail
    refine (HSi.out _).mono ?_
    rintro e wr ⟨rfl, rfl⟩
    go_wp2_with fail
    go_ret
    exact ⟨rfl, HB1.out⟩
end Go.Proofs.YtnomicccdhilbaaDoor
