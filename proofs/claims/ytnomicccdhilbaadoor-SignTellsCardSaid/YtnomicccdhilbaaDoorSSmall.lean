/- bournelaw05.small returns true. -/
import Derived.Test.YtnomicccdhilbaaDoorSLaw
import Derived.Outline
namespace Go.Proofs.YtnomicccdhilbaaDoor
open Go.RowKit
/-- what the walk of small needs of the key and the signature -/
structure SmallFacts (k p E S : Int) : Prop where
  key : ∀ w, Glob w → MLen w → Calls Tryd.prog 10 #[.string ⟨#[97]⟩] w fun e w' => e = .returned (.agg #[.int .i64 k, .int .i64 p]) ∧ Below w.heap.size w w'
  sign : ∀ w, Glob w → MLen w → Calls Tryd.prog 16 #[.agg #[.int .i64 k, .int .i64 p], .string ⟨#[99]⟩, .string ⟨#[109]⟩] w fun e w' => e = .returned (.agg #[.int .i64 E, .int .i64 S]) ∧ Below w.heap.size w w'
  of1 : ∀ w, Calls Tryd.prog 12 #[.int .i64 1] w fun e w' => e = .returned (.agg #[.int .i64 1, .int .i64 4]) ∧ Below w.heap.size w w'
  of0 : ∀ w, Calls Tryd.prog 12 #[.int .i64 0] w fun e w' => e = .returned (.agg #[.int .i64 0, .int .i64 0]) ∧ Below w.heap.size w w'
  right : ∀ w, Calls Tryd.prog 14 #[.agg #[.int .i64 k, .int .i64 p]] w fun e w' => e = .returned (.bool true) ∧ Below w.heap.size w w'
  v1 : ∀ w, Glob w → MLen w → Calls Tryd.prog 18 #[.int .i64 p, .string ⟨#[99]⟩, .string ⟨#[109]⟩, .agg #[.int .i64 E, .int .i64 S]] w fun e w' => e = .returned (.bool true) ∧ Below w.heap.size w w'
  v2 : ∀ w, Glob w → MLen w → Calls Tryd.prog 18 #[.int .i64 p, .string ⟨#[99]⟩, .string ⟨#[110]⟩, .agg #[.int .i64 E, .int .i64 S]] w fun e w' => e = .returned (.bool false) ∧ Below w.heap.size w w'
  v3 : ∀ w, Calls Tryd.prog 18 #[.int .i64 1, .string ⟨#[99]⟩, .string ⟨#[109]⟩, .agg #[.int .i64 E, .int .i64 S]] w fun e w' => e = .returned (.bool false) ∧ Below w.heap.size w w'
theorem smallFacts : ∃ k p E S, SmallFacts k p E S := by
  have hk := keyN_bd [97]
  have hv1 := ver_same hk.1 hk.2 [99] [109]
  have hv2 := kat_differ
  refine ⟨(keyN [97] : Nat), (pubN (keyN [97]) : Nat), (sgE (keyN [97]) [99] [109] : Nat), (sgS (keyN [97]) [99] [109] : Nat), ⟨fun w hg hm => key_any ⟨#[97]⟩ w (by decide) hg hm, fun w hg hm => sign_yes _ ⟨#[99]⟩ ⟨#[109]⟩ w hk.1 hk.2 (by decide) (by decide) hg hm, fun w => ?_, fun w => of_none 0 w (.inl (by decide)), fun w => ?_, fun w hg hm => ?_, fun w hg hm => ?_, fun w => ?_⟩⟩
  · have h := of_any 1 w (by decide) (by decide)
    rw [kat_one] at h
    exact h
  · have h := right_yes (keyN [97]) (pubN (keyN [97]) : Nat) w hk.1 hk.2
    rw [decide_eq_true rfl] at h
    exact h
  · have h := verify_any (pubN (keyN [97]) : Nat) (sgE (keyN [97]) [99] [109] : Nat) (sgS (keyN [97]) [99] [109] : Nat) ⟨#[99]⟩ ⟨#[109]⟩ w ⟨by have := (pub_in (keyN [97])).1; omega, by have := (pub_in (keyN [97])).2.1; omega⟩ (by decide) (by decide) hg hm
    rw [decide_eq_true hv1] at h
    exact h
  · have h := verify_any (pubN (keyN [97]) : Nat) (sgE (keyN [97]) [99] [109] : Nat) (sgS (keyN [97]) [99] [109] : Nat) ⟨#[99]⟩ ⟨#[110]⟩ w ⟨by have := (pub_in (keyN [97])).1; omega, by have := (pub_in (keyN [97])).2.1; omega⟩ (by decide) (by decide) hg hm
    rw [decide_eq_false hv2] at h
    exact h
  · exact ver_out 1 _ _ ⟨#[99]⟩ ⟨#[109]⟩ w ⟨by decide, by decide⟩ (fun h => h.1 rfl)
set_option maxRecDepth 100000 in
set_option maxHeartbeats 4000000 in
theorem small_any (w : World) (hg : Glob w) (hml : MLen w) :
    Calls Tryd.prog 8 #[] w fun e w' => e = .returned (.bool true) ∧ Below w.heap.size w w' := by
  obtain ⟨k, p, E, S, hF⟩ := smallFacts
  have HF := Lib.hid hF
  have HG := Lib.hid hg
  have HM := Lib.hid hml
  have heq1 := eqK 1 4 1 4
  have heq2 := eqK 0 0 0 0
  rw [decide_eq_true ⟨rfl, rfl⟩] at heq1 heq2
  clear hg hml hF
  go_enter Tryd.func8, Tryd.ntmps8
  go_wp2_with fail
  refine (HF.out.key _ HG.out HM.out).mono ?_
  rintro e w1 ⟨rfl, hb⟩
  have HB1 := Lib.hid hb
  clear hb
  go_upto_region 2 with fail
  have HB2 := Lib.hid (HB1.out.alloc HB1.out.size (.cells #[.int .i64 k, .int .i64 p] 23))
  have Kh2 := Lib.hid (heap_alloc_new w1 (.cells #[.int .i64 k, .int .i64 p] 23))
  clear HB1
  generalize w1.heap.size = bK at *
  generalize w1.alloc (.cells #[.int .i64 k, .int .i64 p] 23) = w2 at *
  have cK0 : w2.cell? ⟨bK, 0, none⟩ = some (.int .i64 k) := (cell_of_row _ _ _ _ _ _ Kh2.out).trans rfl
  have cK1 : w2.cell? ⟨bK, 1, none⟩ = some (.int .i64 p) := (cell_of_row _ _ _ _ _ _ Kh2.out).trans rfl
  go_wp2_with fail
  refine (HF.out.sign _ (HG.out.below HB2.out HG.out.size) (HM.out.up HB2.out)).mono ?_
  rintro e w3 ⟨rfl, hb⟩
  have HB3 := Lib.hid (HB2.out.trans (hb.mono HB2.out.size))
  have Kh3 := Lib.hid (blk_below Kh2.out hb (blk_lt Kh2.out))
  clear cK0 cK1
  clear HB2 Kh2
  clear hb
  have cK0 : w3.cell? ⟨bK, 0, none⟩ = some (.int .i64 k) := (cell_of_row _ _ _ _ _ _ Kh3.out).trans rfl
  have cK1 : w3.cell? ⟨bK, 1, none⟩ = some (.int .i64 p) := (cell_of_row _ _ _ _ _ _ Kh3.out).trans rfl
  go_upto_region 3 with fail
  have HB4 := Lib.hid (HB3.out.alloc HB3.out.size (.cells #[.int .i64 E, .int .i64 S] 25))
  have Sh4 := Lib.hid (heap_alloc_new w3 (.cells #[.int .i64 E, .int .i64 S] 25))
  have Kh4 := Lib.hid (blk_below Kh3.out ((Below.refl w3.heap.size w3).alloc (Nat.le_refl _) (.cells #[.int .i64 E, .int .i64 S] 25)) (blk_lt Kh3.out))
  clear cK0 cK1
  clear HB3 Kh3
  generalize w3.heap.size = bS at *
  generalize w3.alloc (.cells #[.int .i64 E, .int .i64 S] 25) = w4 at *
  have cK0 : w4.cell? ⟨bK, 0, none⟩ = some (.int .i64 k) := (cell_of_row _ _ _ _ _ _ Kh4.out).trans rfl
  have cK1 : w4.cell? ⟨bK, 1, none⟩ = some (.int .i64 p) := (cell_of_row _ _ _ _ _ _ Kh4.out).trans rfl
  have cS0 : w4.cell? ⟨bS, 0, none⟩ = some (.int .i64 E) := (cell_of_row _ _ _ _ _ _ Sh4.out).trans rfl
  have cS1 : w4.cell? ⟨bS, 1, none⟩ = some (.int .i64 S) := (cell_of_row _ _ _ _ _ _ Sh4.out).trans rfl
  go_wp2_with fail
  refine (HF.out.of1 _).mono ?_
  rintro e w5 ⟨rfl, hb⟩
  have HB5 := Lib.hid (HB4.out.trans (hb.mono HB4.out.size))
  have Kh5 := Lib.hid (blk_below Kh4.out hb (blk_lt Kh4.out))
  have Sh5 := Lib.hid (blk_below Sh4.out hb (blk_lt Sh4.out))
  clear cK0 cK1 cS0 cS1
  clear HB4 Kh4 Sh4
  clear hb
  have cK0 : w5.cell? ⟨bK, 0, none⟩ = some (.int .i64 k) := (cell_of_row _ _ _ _ _ _ Kh5.out).trans rfl
  have cK1 : w5.cell? ⟨bK, 1, none⟩ = some (.int .i64 p) := (cell_of_row _ _ _ _ _ _ Kh5.out).trans rfl
  have cS0 : w5.cell? ⟨bS, 0, none⟩ = some (.int .i64 E) := (cell_of_row _ _ _ _ _ _ Sh5.out).trans rfl
  have cS1 : w5.cell? ⟨bS, 1, none⟩ = some (.int .i64 S) := (cell_of_row _ _ _ _ _ _ Sh5.out).trans rfl
  go_wp2_with fail
  refine (HF.out.of0 _).mono ?_
  rintro e w6 ⟨rfl, hb⟩
  have HB6 := Lib.hid (HB5.out.trans (hb.mono HB5.out.size))
  have Kh6 := Lib.hid (blk_below Kh5.out hb (blk_lt Kh5.out))
  have Sh6 := Lib.hid (blk_below Sh5.out hb (blk_lt Sh5.out))
  clear cK0 cK1 cS0 cS1
  clear HB5 Kh5 Sh5
  clear hb
  have cK0 : w6.cell? ⟨bK, 0, none⟩ = some (.int .i64 k) := (cell_of_row _ _ _ _ _ _ Kh6.out).trans rfl
  have cK1 : w6.cell? ⟨bK, 1, none⟩ = some (.int .i64 p) := (cell_of_row _ _ _ _ _ _ Kh6.out).trans rfl
  have cS0 : w6.cell? ⟨bS, 0, none⟩ = some (.int .i64 E) := (cell_of_row _ _ _ _ _ _ Sh6.out).trans rfl
  have cS1 : w6.cell? ⟨bS, 1, none⟩ = some (.int .i64 S) := (cell_of_row _ _ _ _ _ _ Sh6.out).trans rfl
  go_wp2_with fail
  refine (HF.out.right _).mono ?_
  rintro e w7 ⟨rfl, hb⟩
  have HB7 := Lib.hid (HB6.out.trans (hb.mono HB6.out.size))
  have Kh7 := Lib.hid (blk_below Kh6.out hb (blk_lt Kh6.out))
  have Sh7 := Lib.hid (blk_below Sh6.out hb (blk_lt Sh6.out))
  clear cK0 cK1 cS0 cS1
  clear HB6 Kh6 Sh6
  clear hb
  have cK0 : w7.cell? ⟨bK, 0, none⟩ = some (.int .i64 k) := (cell_of_row _ _ _ _ _ _ Kh7.out).trans rfl
  have cK1 : w7.cell? ⟨bK, 1, none⟩ = some (.int .i64 p) := (cell_of_row _ _ _ _ _ _ Kh7.out).trans rfl
  have cS0 : w7.cell? ⟨bS, 0, none⟩ = some (.int .i64 E) := (cell_of_row _ _ _ _ _ _ Sh7.out).trans rfl
  have cS1 : w7.cell? ⟨bS, 1, none⟩ = some (.int .i64 S) := (cell_of_row _ _ _ _ _ _ Sh7.out).trans rfl
  go_wp2_with fail
  refine (HF.out.v1 _ (HG.out.below HB7.out HG.out.size) (HM.out.up HB7.out)).mono ?_
  rintro e w8 ⟨rfl, hb⟩
  have HB8 := Lib.hid (HB7.out.trans (hb.mono HB7.out.size))
  have Kh8 := Lib.hid (blk_below Kh7.out hb (blk_lt Kh7.out))
  have Sh8 := Lib.hid (blk_below Sh7.out hb (blk_lt Sh7.out))
  clear cK0 cK1 cS0 cS1
  clear HB7 Kh7 Sh7
  clear hb
  have cK0 : w8.cell? ⟨bK, 0, none⟩ = some (.int .i64 k) := (cell_of_row _ _ _ _ _ _ Kh8.out).trans rfl
  have cK1 : w8.cell? ⟨bK, 1, none⟩ = some (.int .i64 p) := (cell_of_row _ _ _ _ _ _ Kh8.out).trans rfl
  have cS0 : w8.cell? ⟨bS, 0, none⟩ = some (.int .i64 E) := (cell_of_row _ _ _ _ _ _ Sh8.out).trans rfl
  have cS1 : w8.cell? ⟨bS, 1, none⟩ = some (.int .i64 S) := (cell_of_row _ _ _ _ _ _ Sh8.out).trans rfl
  go_wp2_with fail
  refine (HF.out.v2 _ (HG.out.below HB8.out HG.out.size) (HM.out.up HB8.out)).mono ?_
  rintro e w9 ⟨rfl, hb⟩
  have HB9 := Lib.hid (HB8.out.trans (hb.mono HB8.out.size))
  have Kh9 := Lib.hid (blk_below Kh8.out hb (blk_lt Kh8.out))
  have Sh9 := Lib.hid (blk_below Sh8.out hb (blk_lt Sh8.out))
  clear cK0 cK1 cS0 cS1
  clear HB8 Kh8 Sh8
  clear hb
  have cK0 : w9.cell? ⟨bK, 0, none⟩ = some (.int .i64 k) := (cell_of_row _ _ _ _ _ _ Kh9.out).trans rfl
  have cK1 : w9.cell? ⟨bK, 1, none⟩ = some (.int .i64 p) := (cell_of_row _ _ _ _ _ _ Kh9.out).trans rfl
  have cS0 : w9.cell? ⟨bS, 0, none⟩ = some (.int .i64 E) := (cell_of_row _ _ _ _ _ _ Sh9.out).trans rfl
  have cS1 : w9.cell? ⟨bS, 1, none⟩ = some (.int .i64 S) := (cell_of_row _ _ _ _ _ _ Sh9.out).trans rfl
  go_wp2_with fail
  refine (HF.out.v3 _).mono ?_
  rintro e w10 ⟨rfl, hb⟩
  have HB10 := Lib.hid (HB9.out.trans (hb.mono HB9.out.size))
  have Kh10 := Lib.hid (blk_below Kh9.out hb (blk_lt Kh9.out))
  have Sh10 := Lib.hid (blk_below Sh9.out hb (blk_lt Sh9.out))
  clear cK0 cK1 cS0 cS1
  clear HB9 Kh9 Sh9
  clear hb
  have cK0 : w10.cell? ⟨bK, 0, none⟩ = some (.int .i64 k) := (cell_of_row _ _ _ _ _ _ Kh10.out).trans rfl
  have cK1 : w10.cell? ⟨bK, 1, none⟩ = some (.int .i64 p) := (cell_of_row _ _ _ _ _ _ Kh10.out).trans rfl
  have cS0 : w10.cell? ⟨bS, 0, none⟩ = some (.int .i64 E) := (cell_of_row _ _ _ _ _ _ Sh10.out).trans rfl
  have cS1 : w10.cell? ⟨bS, 1, none⟩ = some (.int .i64 S) := (cell_of_row _ _ _ _ _ _ Sh10.out).trans rfl
  go_wp2_with fail
  go_ret
  exact ⟨rfl, HB10.out⟩
end Go.Proofs.YtnomicccdhilbaaDoor
