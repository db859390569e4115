/- bournelaw24.small returns true. -/
import Derived.Test.YtmlfkhpmgjcliaaDoorGSmall
import Derived.OwnWalk
namespace Go.Proofs.YtmlfkhpmgjcliaaDoor
open Go.RowKit
theorem undGs : Tryd.prog.underlying 26 = some (.slice 136) := by kernel_rfl
theorem infoGauge : ∃ i z, Tryd.prog.info? 136 = some i ∧ i.zero = some z ∧ i.bytes * 4 ≤ 281474976710656 := by
  have h : (match Tryd.prog.info? 136 with | some i => (match i.zero with | some _ => decide (i.bytes * 4 ≤ 281474976710656) | none => false) | none => false) = true := by kernel_rfl
  split at h
  · next i hi =>
    split at h
    · next z hz => exact ⟨i, z, hi, hz, of_decide_eq_true h⟩
    · cases h
  · cases h
set_option maxRecDepth 100000 in
set_option maxHeartbeats 2000000 in
theorem small_any (w : World) (hG : Glob w) (hM : MLen w) :
    Calls Tryd.prog 8 #[] w fun e w' => e = .returned (.bool true) ∧ Below w.heap.size w w' := by
  obtain ⟨T, hF⟩ := sealFacts
  obtain ⟨ig, zg, hig, hzg, hbg⟩ := infoGauge
  have HF := Lib.hid hF
  have HG := Lib.hid hG
  have HM := Lib.hid hM
  clear hG hM hF
  go_enter Tryd.func8, Tryd.ntmps8
  go_wp2_with fail
  refine (HF.out.sealT _ HG.out HM.out).mono ?_
  rintro e w1 ⟨rfl, hb⟩
  have HB1 := Lib.hid hb
  clear hb
  go_wp2_with fail
  have HB2 := Lib.hid (HB1.out.alloc HB1.out.size (.cells #[.int .i64 3, .int .i64 1, .int .i64 600, .int .i64 (-5), .string T] 23))
  have HN := Lib.hid (heap_alloc_new w1 (.cells #[.int .i64 3, .int .i64 1, .int .i64 600, .int .i64 (-5), .string T] 23))
  have hn1 := HB1.out.size
  refine (HF.out.bytes _ (HM.out.up HB2.out)).mono ?_
  rintro e w2 ⟨rfl, hb⟩
  have HB3 := Lib.hid (HB2.out.trans (hb.mono HB2.out.size))
  have HN3 := Lib.hid (blk_below HN.out hb (blk_lt HN.out))
  clear hb HB1 HB2 HN
  generalize w1.heap.size = n1 at *
  go_wp2_with fail
  refine (HF.out.back _).mono ?_
  rintro e w3 ⟨rfl, hb⟩
  have HB4 := Lib.hid (HB3.out.trans (hb.mono HB3.out.size))
  have HN4 := Lib.hid (blk_below HN3.out hb (blk_lt HN3.out))
  clear hb HB3 HN3
  go_wp2_with fail
  have HB5 := Lib.hid (HB4.out.alloc HB4.out.size (.cells #[.int .i64 3, .int .i64 1, .int .i64 600, .int .i64 (-5), .string T] 23))
  have HH := Lib.hid (heap_alloc_new w3 (.cells #[.int .i64 3, .int .i64 1, .int .i64 600, .int .i64 (-5), .string T] 23))
  have HN5 := Lib.hid (blk_below HN4.out ((Below.refl w3.heap.size w3).alloc (Nat.le_refl _) (.cells #[.int .i64 3, .int .i64 1, .int .i64 600, .int .i64 (-5), .string T] 23)) (blk_lt HN4.out))
  have hn2 := HB4.out.size
  refine (readNone _).mono ?_
  rintro e w4 ⟨rfl, hb⟩
  have HB6 := Lib.hid (HB5.out.trans (hb.mono HB5.out.size))
  have HH6 := Lib.hid (blk_below HH.out hb (blk_lt HH.out))
  have HN6 := Lib.hid (blk_below HN5.out hb (blk_lt HN5.out))
  clear hb HB4 HN4 HB5 HH HN5
  generalize w3.heap.size = n2 at *
  have HB7 := Lib.hid (HB6.out.alloc HB6.out.size (.cells #[.int .i64 0, .int .i64 0, .int .i64 0, .int .i64 0, .string ⟨#[]⟩] 23))
  have HH7 := Lib.hid (blk_below HH6.out ((Below.refl w4.heap.size w4).alloc (Nat.le_refl _) (.cells #[.int .i64 0, .int .i64 0, .int .i64 0, .int .i64 0, .string ⟨#[]⟩] 23)) (blk_lt HH6.out))
  have HN7 := Lib.hid (blk_below HN6.out ((Below.refl w4.heap.size w4).alloc (Nat.le_refl _) (.cells #[.int .i64 0, .int .i64 0, .int .i64 0, .int .i64 0, .string ⟨#[]⟩] 23)) (blk_lt HN6.out))
  clear HB6 HH6 HN6
  go_upto_region 5 with (at_make; refine wpList_make_full _ rfl _ _ 26 rfl w.heap.size 136 ig zg _ undGs hig hzg rfl .i64 .i64 4 4 4 rfl rfl rfl rfl hbg (by decide) HB7.out.size ?_; intro w5 hown hgr)
  have HB8 := Lib.hid (HB7.out.grown hgr HB7.out.size (fun k e => by cases e))
  have n8 : w5.heap[n1]? = some (.cells #[.int .i64 3, .int .i64 1, .int .i64 600, .int .i64 (-5), .string T] 23 (0, 0)) := by rw [hgr.block _ (blk_lt HN7.out) (by simp)]; exact HN7.out
  have m8 : w5.heap[n2]? = some (.cells #[.int .i64 3, .int .i64 1, .int .i64 600, .int .i64 (-5), .string T] 23 (0, 0)) := by rw [hgr.block _ (blk_lt HH7.out) (by simp)]; exact HH7.out
  have N0 := blk_below n8 ((Below.refl w5.heap.size w5).alloc (Nat.le_refl _) (.cells #[.string ⟨#[]⟩, .slice none 0 0, .int .i64 0, .slice none 0 0, .slice none 0 0, .slice none 0 0, .slice (some ⟨w4.heap.size + 1, 0, none⟩) 4 4, .slice none 0 0, .slice none 0 0, .slice none 0 0, .int .i64 0] 35)) (blk_lt n8)
  have M0 := blk_below m8 ((Below.refl w5.heap.size w5).alloc (Nat.le_refl _) (.cells #[.string ⟨#[]⟩, .slice none 0 0, .int .i64 0, .slice none 0 0, .slice none 0 0, .slice none 0 0, .slice (some ⟨w4.heap.size + 1, 0, none⟩) 4 4, .slice none 0 0, .slice none 0 0, .slice none 0 0, .int .i64 0] 35)) (blk_lt m8)
  have Z0 := heap_alloc_new w5 (.cells #[.string ⟨#[]⟩, .slice none 0 0, .int .i64 0, .slice none 0 0, .slice none 0 0, .slice none 0 0, .slice (some ⟨w4.heap.size + 1, 0, none⟩) 4 4, .slice none 0 0, .slice none 0 0, .slice none 0 0, .int .i64 0] 35)
  have HC0 := Lib.hid (HB8.out.alloc HB8.out.size (.cells #[.string ⟨#[]⟩, .slice none 0 0, .int .i64 0, .slice none 0 0, .slice none 0 0, .slice none 0 0, .slice (some ⟨w4.heap.size + 1, 0, none⟩) 4 4, .slice none 0 0, .slice none 0 0, .slice none 0 0, .int .i64 0] 35))
  have heq := eqG 3 1 600 (-5) 3 1 600 (-5) T T
  rw [decide_eq_true ⟨rfl, rfl, rfl, rfl, rfl⟩] at heq
  clear hgr hown HB7 HN7 HH7 HB8 n8 m8
  generalize w5.alloc (.cells #[.string ⟨#[]⟩, .slice none 0 0, .int .i64 0, .slice none 0 0, .slice none 0 0, .slice none 0 0, .slice (some ⟨w4.heap.size + 1, 0, none⟩) 4 4, .slice none 0 0, .slice none 0 0, .slice none 0 0, .int .i64 0] 35) = v0 at *
  generalize w5.heap.size = n6 at *
  generalize w4.heap.size + 1 = q at *
  have x00 : v0.cell? ⟨n1, 0, none⟩ = some (.int .i64 3) := (cell_of_row _ _ _ _ _ _ N0).trans rfl
  have x01 : v0.cell? ⟨n1, 1, none⟩ = some (.int .i64 1) := (cell_of_row _ _ _ _ _ _ N0).trans rfl
  have x02 : v0.cell? ⟨n1, 2, none⟩ = some (.int .i64 600) := (cell_of_row _ _ _ _ _ _ N0).trans rfl
  have x03 : v0.cell? ⟨n1, 3, none⟩ = some (.int .i64 (-5)) := (cell_of_row _ _ _ _ _ _ N0).trans rfl
  have x04 : v0.cell? ⟨n1, 4, none⟩ = some (.string T) := (cell_of_row _ _ _ _ _ _ N0).trans rfl
  have y00 : v0.cell? ⟨n2, 0, none⟩ = some (.int .i64 3) := (cell_of_row _ _ _ _ _ _ M0).trans rfl
  have y01 : v0.cell? ⟨n2, 1, none⟩ = some (.int .i64 1) := (cell_of_row _ _ _ _ _ _ M0).trans rfl
  have y02 : v0.cell? ⟨n2, 2, none⟩ = some (.int .i64 600) := (cell_of_row _ _ _ _ _ _ M0).trans rfl
  have y03 : v0.cell? ⟨n2, 3, none⟩ = some (.int .i64 (-5)) := (cell_of_row _ _ _ _ _ _ M0).trans rfl
  have y04 : v0.cell? ⟨n2, 4, none⟩ = some (.string T) := (cell_of_row _ _ _ _ _ _ M0).trans rfl
  have z00 : v0.cell? ⟨n6, 0, none⟩ = some (.string ⟨#[]⟩) := (cell_of_row _ _ _ _ _ _ Z0).trans rfl
  have z01 : v0.cell? ⟨n6, 1, none⟩ = some (.slice none 0 0) := (cell_of_row _ _ _ _ _ _ Z0).trans rfl
  have z02 : v0.cell? ⟨n6, 2, none⟩ = some (.int .i64 0) := (cell_of_row _ _ _ _ _ _ Z0).trans rfl
  have z03 : v0.cell? ⟨n6, 3, none⟩ = some (.slice none 0 0) := (cell_of_row _ _ _ _ _ _ Z0).trans rfl
  have z04 : v0.cell? ⟨n6, 4, none⟩ = some (.slice none 0 0) := (cell_of_row _ _ _ _ _ _ Z0).trans rfl
  have z05 : v0.cell? ⟨n6, 5, none⟩ = some (.slice none 0 0) := (cell_of_row _ _ _ _ _ _ Z0).trans rfl
  have z06 : v0.cell? ⟨n6, 6, none⟩ = some (.slice (some ⟨q, 0, none⟩) 4 4) := (cell_of_row _ _ _ _ _ _ Z0).trans rfl
  have z07 : v0.cell? ⟨n6, 7, none⟩ = some (.slice none 0 0) := (cell_of_row _ _ _ _ _ _ Z0).trans rfl
  have z08 : v0.cell? ⟨n6, 8, none⟩ = some (.slice none 0 0) := (cell_of_row _ _ _ _ _ _ Z0).trans rfl
  have z09 : v0.cell? ⟨n6, 9, none⟩ = some (.slice none 0 0) := (cell_of_row _ _ _ _ _ _ Z0).trans rfl
  have z010 : v0.cell? ⟨n6, 10, none⟩ = some (.int .i64 0) := (cell_of_row _ _ _ _ _ _ Z0).trans rfl
  have HN0 := Lib.hid N0
  have HM0 := Lib.hid M0
  have HZ0 := Lib.hid Z0
  clear N0 M0 Z0
  go_wp2_with fail
  refine (HF.out.genS _ (HG.out.below HC0.out HG.out.size) (HM.out.up HC0.out)).mono ?_
  rintro e v1 ⟨rfl, hb⟩
  have N1 := blk_below HN0.out hb (blk_lt HN0.out)
  have M1 := blk_below HM0.out hb (blk_lt HM0.out)
  have Z1 := blk_below HZ0.out hb (blk_lt HZ0.out)
  have HC1 := Lib.hid (HC0.out.trans (hb.mono HC0.out.size))
  clear hb HN0 HM0 HZ0 HC0
  clear x00 x01 x02 x03 x04 y00 y01 y02 y03 y04 z00 z01 z02 z03 z04 z05 z06 z07 z08 z09 z010
  have x10 : v1.cell? ⟨n1, 0, none⟩ = some (.int .i64 3) := (cell_of_row _ _ _ _ _ _ N1).trans rfl
  have x11 : v1.cell? ⟨n1, 1, none⟩ = some (.int .i64 1) := (cell_of_row _ _ _ _ _ _ N1).trans rfl
  have x12 : v1.cell? ⟨n1, 2, none⟩ = some (.int .i64 600) := (cell_of_row _ _ _ _ _ _ N1).trans rfl
  have x13 : v1.cell? ⟨n1, 3, none⟩ = some (.int .i64 (-5)) := (cell_of_row _ _ _ _ _ _ N1).trans rfl
  have x14 : v1.cell? ⟨n1, 4, none⟩ = some (.string T) := (cell_of_row _ _ _ _ _ _ N1).trans rfl
  have y10 : v1.cell? ⟨n2, 0, none⟩ = some (.int .i64 3) := (cell_of_row _ _ _ _ _ _ M1).trans rfl
  have y11 : v1.cell? ⟨n2, 1, none⟩ = some (.int .i64 1) := (cell_of_row _ _ _ _ _ _ M1).trans rfl
  have y12 : v1.cell? ⟨n2, 2, none⟩ = some (.int .i64 600) := (cell_of_row _ _ _ _ _ _ M1).trans rfl
  have y13 : v1.cell? ⟨n2, 3, none⟩ = some (.int .i64 (-5)) := (cell_of_row _ _ _ _ _ _ M1).trans rfl
  have y14 : v1.cell? ⟨n2, 4, none⟩ = some (.string T) := (cell_of_row _ _ _ _ _ _ M1).trans rfl
  have z10 : v1.cell? ⟨n6, 0, none⟩ = some (.string ⟨#[]⟩) := (cell_of_row _ _ _ _ _ _ Z1).trans rfl
  have z11 : v1.cell? ⟨n6, 1, none⟩ = some (.slice none 0 0) := (cell_of_row _ _ _ _ _ _ Z1).trans rfl
  have z12 : v1.cell? ⟨n6, 2, none⟩ = some (.int .i64 0) := (cell_of_row _ _ _ _ _ _ Z1).trans rfl
  have z13 : v1.cell? ⟨n6, 3, none⟩ = some (.slice none 0 0) := (cell_of_row _ _ _ _ _ _ Z1).trans rfl
  have z14 : v1.cell? ⟨n6, 4, none⟩ = some (.slice none 0 0) := (cell_of_row _ _ _ _ _ _ Z1).trans rfl
  have z15 : v1.cell? ⟨n6, 5, none⟩ = some (.slice none 0 0) := (cell_of_row _ _ _ _ _ _ Z1).trans rfl
  have z16 : v1.cell? ⟨n6, 6, none⟩ = some (.slice (some ⟨q, 0, none⟩) 4 4) := (cell_of_row _ _ _ _ _ _ Z1).trans rfl
  have z17 : v1.cell? ⟨n6, 7, none⟩ = some (.slice none 0 0) := (cell_of_row _ _ _ _ _ _ Z1).trans rfl
  have z18 : v1.cell? ⟨n6, 8, none⟩ = some (.slice none 0 0) := (cell_of_row _ _ _ _ _ _ Z1).trans rfl
  have z19 : v1.cell? ⟨n6, 9, none⟩ = some (.slice none 0 0) := (cell_of_row _ _ _ _ _ _ Z1).trans rfl
  have z110 : v1.cell? ⟨n6, 10, none⟩ = some (.int .i64 0) := (cell_of_row _ _ _ _ _ _ Z1).trans rfl
  have HN1 := Lib.hid N1
  have HM1 := Lib.hid M1
  have HZ1 := Lib.hid Z1
  clear N1 M1 Z1
  go_wp2_with fail
  refine (HF.out.genT _ (HG.out.below HC1.out HG.out.size) (HM.out.up HC1.out)).mono ?_
  rintro e v2 ⟨rfl, hb⟩
  have N2 := blk_below HN1.out hb (blk_lt HN1.out)
  have M2 := blk_below HM1.out hb (blk_lt HM1.out)
  have Z2 := blk_below HZ1.out hb (blk_lt HZ1.out)
  have HC2 := Lib.hid (HC1.out.trans (hb.mono HC1.out.size))
  clear hb HN1 HM1 HZ1 HC1
  clear x10 x11 x12 x13 x14 y10 y11 y12 y13 y14 z10 z11 z12 z13 z14 z15 z16 z17 z18 z19 z110
  have x20 : v2.cell? ⟨n1, 0, none⟩ = some (.int .i64 3) := (cell_of_row _ _ _ _ _ _ N2).trans rfl
  have x21 : v2.cell? ⟨n1, 1, none⟩ = some (.int .i64 1) := (cell_of_row _ _ _ _ _ _ N2).trans rfl
  have x22 : v2.cell? ⟨n1, 2, none⟩ = some (.int .i64 600) := (cell_of_row _ _ _ _ _ _ N2).trans rfl
  have x23 : v2.cell? ⟨n1, 3, none⟩ = some (.int .i64 (-5)) := (cell_of_row _ _ _ _ _ _ N2).trans rfl
  have x24 : v2.cell? ⟨n1, 4, none⟩ = some (.string T) := (cell_of_row _ _ _ _ _ _ N2).trans rfl
  have y20 : v2.cell? ⟨n2, 0, none⟩ = some (.int .i64 3) := (cell_of_row _ _ _ _ _ _ M2).trans rfl
  have y21 : v2.cell? ⟨n2, 1, none⟩ = some (.int .i64 1) := (cell_of_row _ _ _ _ _ _ M2).trans rfl
  have y22 : v2.cell? ⟨n2, 2, none⟩ = some (.int .i64 600) := (cell_of_row _ _ _ _ _ _ M2).trans rfl
  have y23 : v2.cell? ⟨n2, 3, none⟩ = some (.int .i64 (-5)) := (cell_of_row _ _ _ _ _ _ M2).trans rfl
  have y24 : v2.cell? ⟨n2, 4, none⟩ = some (.string T) := (cell_of_row _ _ _ _ _ _ M2).trans rfl
  have z20 : v2.cell? ⟨n6, 0, none⟩ = some (.string ⟨#[]⟩) := (cell_of_row _ _ _ _ _ _ Z2).trans rfl
  have z21 : v2.cell? ⟨n6, 1, none⟩ = some (.slice none 0 0) := (cell_of_row _ _ _ _ _ _ Z2).trans rfl
  have z22 : v2.cell? ⟨n6, 2, none⟩ = some (.int .i64 0) := (cell_of_row _ _ _ _ _ _ Z2).trans rfl
  have z23 : v2.cell? ⟨n6, 3, none⟩ = some (.slice none 0 0) := (cell_of_row _ _ _ _ _ _ Z2).trans rfl
  have z24 : v2.cell? ⟨n6, 4, none⟩ = some (.slice none 0 0) := (cell_of_row _ _ _ _ _ _ Z2).trans rfl
  have z25 : v2.cell? ⟨n6, 5, none⟩ = some (.slice none 0 0) := (cell_of_row _ _ _ _ _ _ Z2).trans rfl
  have z26 : v2.cell? ⟨n6, 6, none⟩ = some (.slice (some ⟨q, 0, none⟩) 4 4) := (cell_of_row _ _ _ _ _ _ Z2).trans rfl
  have z27 : v2.cell? ⟨n6, 7, none⟩ = some (.slice none 0 0) := (cell_of_row _ _ _ _ _ _ Z2).trans rfl
  have z28 : v2.cell? ⟨n6, 8, none⟩ = some (.slice none 0 0) := (cell_of_row _ _ _ _ _ _ Z2).trans rfl
  have z29 : v2.cell? ⟨n6, 9, none⟩ = some (.slice none 0 0) := (cell_of_row _ _ _ _ _ _ Z2).trans rfl
  have z210 : v2.cell? ⟨n6, 10, none⟩ = some (.int .i64 0) := (cell_of_row _ _ _ _ _ _ Z2).trans rfl
  have HN2 := Lib.hid N2
  have HM2 := Lib.hid M2
  have HZ2 := Lib.hid Z2
  clear N2 M2 Z2
  go_wp2_with fail
  refine (gright_any T HF.out _ 4 4 true (by decide) _).mono ?_
  rintro e v3 ⟨rfl, hb⟩
  have N3 := blk_below HN2.out hb (blk_lt HN2.out)
  have M3 := blk_below HM2.out hb (blk_lt HM2.out)
  have Z3 := blk_below HZ2.out hb (blk_lt HZ2.out)
  have HC3 := Lib.hid (HC2.out.trans (hb.mono HC2.out.size))
  clear hb HN2 HM2 HZ2 HC2
  clear x20 x21 x22 x23 x24 y20 y21 y22 y23 y24 z20 z21 z22 z23 z24 z25 z26 z27 z28 z29 z210
  have x30 : v3.cell? ⟨n1, 0, none⟩ = some (.int .i64 3) := (cell_of_row _ _ _ _ _ _ N3).trans rfl
  have x31 : v3.cell? ⟨n1, 1, none⟩ = some (.int .i64 1) := (cell_of_row _ _ _ _ _ _ N3).trans rfl
  have x32 : v3.cell? ⟨n1, 2, none⟩ = some (.int .i64 600) := (cell_of_row _ _ _ _ _ _ N3).trans rfl
  have x33 : v3.cell? ⟨n1, 3, none⟩ = some (.int .i64 (-5)) := (cell_of_row _ _ _ _ _ _ N3).trans rfl
  have x34 : v3.cell? ⟨n1, 4, none⟩ = some (.string T) := (cell_of_row _ _ _ _ _ _ N3).trans rfl
  have y30 : v3.cell? ⟨n2, 0, none⟩ = some (.int .i64 3) := (cell_of_row _ _ _ _ _ _ M3).trans rfl
  have y31 : v3.cell? ⟨n2, 1, none⟩ = some (.int .i64 1) := (cell_of_row _ _ _ _ _ _ M3).trans rfl
  have y32 : v3.cell? ⟨n2, 2, none⟩ = some (.int .i64 600) := (cell_of_row _ _ _ _ _ _ M3).trans rfl
  have y33 : v3.cell? ⟨n2, 3, none⟩ = some (.int .i64 (-5)) := (cell_of_row _ _ _ _ _ _ M3).trans rfl
  have y34 : v3.cell? ⟨n2, 4, none⟩ = some (.string T) := (cell_of_row _ _ _ _ _ _ M3).trans rfl
  have z30 : v3.cell? ⟨n6, 0, none⟩ = some (.string ⟨#[]⟩) := (cell_of_row _ _ _ _ _ _ Z3).trans rfl
  have z31 : v3.cell? ⟨n6, 1, none⟩ = some (.slice none 0 0) := (cell_of_row _ _ _ _ _ _ Z3).trans rfl
  have z32 : v3.cell? ⟨n6, 2, none⟩ = some (.int .i64 0) := (cell_of_row _ _ _ _ _ _ Z3).trans rfl
  have z33 : v3.cell? ⟨n6, 3, none⟩ = some (.slice none 0 0) := (cell_of_row _ _ _ _ _ _ Z3).trans rfl
  have z34 : v3.cell? ⟨n6, 4, none⟩ = some (.slice none 0 0) := (cell_of_row _ _ _ _ _ _ Z3).trans rfl
  have z35 : v3.cell? ⟨n6, 5, none⟩ = some (.slice none 0 0) := (cell_of_row _ _ _ _ _ _ Z3).trans rfl
  have z36 : v3.cell? ⟨n6, 6, none⟩ = some (.slice (some ⟨q, 0, none⟩) 4 4) := (cell_of_row _ _ _ _ _ _ Z3).trans rfl
  have z37 : v3.cell? ⟨n6, 7, none⟩ = some (.slice none 0 0) := (cell_of_row _ _ _ _ _ _ Z3).trans rfl
  have z38 : v3.cell? ⟨n6, 8, none⟩ = some (.slice none 0 0) := (cell_of_row _ _ _ _ _ _ Z3).trans rfl
  have z39 : v3.cell? ⟨n6, 9, none⟩ = some (.slice none 0 0) := (cell_of_row _ _ _ _ _ _ Z3).trans rfl
  have z310 : v3.cell? ⟨n6, 10, none⟩ = some (.int .i64 0) := (cell_of_row _ _ _ _ _ _ Z3).trans rfl
  have HN3 := Lib.hid N3
  have HM3 := Lib.hid M3
  have HZ3 := Lib.hid Z3
  clear N3 M3 Z3
  go_wp2_with fail
  refine (gright_any T HF.out none 0 0 false (by decide) _).mono ?_
  rintro e v4 ⟨rfl, hb⟩
  have N4 := blk_below HN3.out hb (blk_lt HN3.out)
  have M4 := blk_below HM3.out hb (blk_lt HM3.out)
  have Z4 := blk_below HZ3.out hb (blk_lt HZ3.out)
  have HC4 := Lib.hid (HC3.out.trans (hb.mono HC3.out.size))
  clear hb HN3 HM3 HZ3 HC3
  clear x30 x31 x32 x33 x34 y30 y31 y32 y33 y34 z30 z31 z32 z33 z34 z35 z36 z37 z38 z39 z310
  have x40 : v4.cell? ⟨n1, 0, none⟩ = some (.int .i64 3) := (cell_of_row _ _ _ _ _ _ N4).trans rfl
  have x41 : v4.cell? ⟨n1, 1, none⟩ = some (.int .i64 1) := (cell_of_row _ _ _ _ _ _ N4).trans rfl
  have x42 : v4.cell? ⟨n1, 2, none⟩ = some (.int .i64 600) := (cell_of_row _ _ _ _ _ _ N4).trans rfl
  have x43 : v4.cell? ⟨n1, 3, none⟩ = some (.int .i64 (-5)) := (cell_of_row _ _ _ _ _ _ N4).trans rfl
  have x44 : v4.cell? ⟨n1, 4, none⟩ = some (.string T) := (cell_of_row _ _ _ _ _ _ N4).trans rfl
  have y40 : v4.cell? ⟨n2, 0, none⟩ = some (.int .i64 3) := (cell_of_row _ _ _ _ _ _ M4).trans rfl
  have y41 : v4.cell? ⟨n2, 1, none⟩ = some (.int .i64 1) := (cell_of_row _ _ _ _ _ _ M4).trans rfl
  have y42 : v4.cell? ⟨n2, 2, none⟩ = some (.int .i64 600) := (cell_of_row _ _ _ _ _ _ M4).trans rfl
  have y43 : v4.cell? ⟨n2, 3, none⟩ = some (.int .i64 (-5)) := (cell_of_row _ _ _ _ _ _ M4).trans rfl
  have y44 : v4.cell? ⟨n2, 4, none⟩ = some (.string T) := (cell_of_row _ _ _ _ _ _ M4).trans rfl
  have z40 : v4.cell? ⟨n6, 0, none⟩ = some (.string ⟨#[]⟩) := (cell_of_row _ _ _ _ _ _ Z4).trans rfl
  have z41 : v4.cell? ⟨n6, 1, none⟩ = some (.slice none 0 0) := (cell_of_row _ _ _ _ _ _ Z4).trans rfl
  have z42 : v4.cell? ⟨n6, 2, none⟩ = some (.int .i64 0) := (cell_of_row _ _ _ _ _ _ Z4).trans rfl
  have z43 : v4.cell? ⟨n6, 3, none⟩ = some (.slice none 0 0) := (cell_of_row _ _ _ _ _ _ Z4).trans rfl
  have z44 : v4.cell? ⟨n6, 4, none⟩ = some (.slice none 0 0) := (cell_of_row _ _ _ _ _ _ Z4).trans rfl
  have z45 : v4.cell? ⟨n6, 5, none⟩ = some (.slice none 0 0) := (cell_of_row _ _ _ _ _ _ Z4).trans rfl
  have z46 : v4.cell? ⟨n6, 6, none⟩ = some (.slice (some ⟨q, 0, none⟩) 4 4) := (cell_of_row _ _ _ _ _ _ Z4).trans rfl
  have z47 : v4.cell? ⟨n6, 7, none⟩ = some (.slice none 0 0) := (cell_of_row _ _ _ _ _ _ Z4).trans rfl
  have z48 : v4.cell? ⟨n6, 8, none⟩ = some (.slice none 0 0) := (cell_of_row _ _ _ _ _ _ Z4).trans rfl
  have z49 : v4.cell? ⟨n6, 9, none⟩ = some (.slice none 0 0) := (cell_of_row _ _ _ _ _ _ Z4).trans rfl
  have z410 : v4.cell? ⟨n6, 10, none⟩ = some (.int .i64 0) := (cell_of_row _ _ _ _ _ _ Z4).trans rfl
  have HN4 := Lib.hid N4
  have HM4 := Lib.hid M4
  have HZ4 := Lib.hid Z4
  clear N4 M4 Z4
  go_wp2_with fail
  refine (bytesNone _ (HM.out.up HC4.out)).mono ?_
  rintro e v5 ⟨rfl, hb⟩
  have N5 := blk_below HN4.out hb (blk_lt HN4.out)
  have M5 := blk_below HM4.out hb (blk_lt HM4.out)
  have Z5 := blk_below HZ4.out hb (blk_lt HZ4.out)
  have HC5 := Lib.hid (HC4.out.trans (hb.mono HC4.out.size))
  clear hb HN4 HM4 HZ4 HC4
  clear x40 x41 x42 x43 x44 y40 y41 y42 y43 y44 z40 z41 z42 z43 z44 z45 z46 z47 z48 z49 z410
  have x50 : v5.cell? ⟨n1, 0, none⟩ = some (.int .i64 3) := (cell_of_row _ _ _ _ _ _ N5).trans rfl
  have x51 : v5.cell? ⟨n1, 1, none⟩ = some (.int .i64 1) := (cell_of_row _ _ _ _ _ _ N5).trans rfl
  have x52 : v5.cell? ⟨n1, 2, none⟩ = some (.int .i64 600) := (cell_of_row _ _ _ _ _ _ N5).trans rfl
  have x53 : v5.cell? ⟨n1, 3, none⟩ = some (.int .i64 (-5)) := (cell_of_row _ _ _ _ _ _ N5).trans rfl
  have x54 : v5.cell? ⟨n1, 4, none⟩ = some (.string T) := (cell_of_row _ _ _ _ _ _ N5).trans rfl
  have y50 : v5.cell? ⟨n2, 0, none⟩ = some (.int .i64 3) := (cell_of_row _ _ _ _ _ _ M5).trans rfl
  have y51 : v5.cell? ⟨n2, 1, none⟩ = some (.int .i64 1) := (cell_of_row _ _ _ _ _ _ M5).trans rfl
  have y52 : v5.cell? ⟨n2, 2, none⟩ = some (.int .i64 600) := (cell_of_row _ _ _ _ _ _ M5).trans rfl
  have y53 : v5.cell? ⟨n2, 3, none⟩ = some (.int .i64 (-5)) := (cell_of_row _ _ _ _ _ _ M5).trans rfl
  have y54 : v5.cell? ⟨n2, 4, none⟩ = some (.string T) := (cell_of_row _ _ _ _ _ _ M5).trans rfl
  have z50 : v5.cell? ⟨n6, 0, none⟩ = some (.string ⟨#[]⟩) := (cell_of_row _ _ _ _ _ _ Z5).trans rfl
  have z51 : v5.cell? ⟨n6, 1, none⟩ = some (.slice none 0 0) := (cell_of_row _ _ _ _ _ _ Z5).trans rfl
  have z52 : v5.cell? ⟨n6, 2, none⟩ = some (.int .i64 0) := (cell_of_row _ _ _ _ _ _ Z5).trans rfl
  have z53 : v5.cell? ⟨n6, 3, none⟩ = some (.slice none 0 0) := (cell_of_row _ _ _ _ _ _ Z5).trans rfl
  have z54 : v5.cell? ⟨n6, 4, none⟩ = some (.slice none 0 0) := (cell_of_row _ _ _ _ _ _ Z5).trans rfl
  have z55 : v5.cell? ⟨n6, 5, none⟩ = some (.slice none 0 0) := (cell_of_row _ _ _ _ _ _ Z5).trans rfl
  have z56 : v5.cell? ⟨n6, 6, none⟩ = some (.slice (some ⟨q, 0, none⟩) 4 4) := (cell_of_row _ _ _ _ _ _ Z5).trans rfl
  have z57 : v5.cell? ⟨n6, 7, none⟩ = some (.slice none 0 0) := (cell_of_row _ _ _ _ _ _ Z5).trans rfl
  have z58 : v5.cell? ⟨n6, 8, none⟩ = some (.slice none 0 0) := (cell_of_row _ _ _ _ _ _ Z5).trans rfl
  have z59 : v5.cell? ⟨n6, 9, none⟩ = some (.slice none 0 0) := (cell_of_row _ _ _ _ _ _ Z5).trans rfl
  have z510 : v5.cell? ⟨n6, 10, none⟩ = some (.int .i64 0) := (cell_of_row _ _ _ _ _ _ Z5).trans rfl
  have HN5 := Lib.hid N5
  have HM5 := Lib.hid M5
  have HZ5 := Lib.hid Z5
  clear N5 M5 Z5
  go_wp2_with fail
  go_ret
  exact ⟨rfl, HC5.out⟩
end Go.Proofs.YtmlfkhpmgjcliaaDoor
