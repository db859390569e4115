/- Texts merged: CRefA TQU -/
import Derived.Outline
import Derived.Test.YtjbjpkhibcnenaaGreatDoorLoad
import Derived.Test.YtjbjpkhibcnenaaGreatDoorSRef6
import Derived.Shelf.Sort.Plain
import Derived.Shelf.Slices.CompactI
import Derived.Shelf.Slices.In.SortNone
import Derived.Ground.NamesProg
import Derived.Ground.Names2Prog
import Derived.Test.YtjbjpkhibcnenaaGreatDoorProg
/- bourneref45: Core, core, Bytes, PromiseBytes, Digest, Verify, PromiseVerify, Sign, PromiseSign. -/
namespace Go.Proofs.YtjbjpkhibcnenaaGreatDoor
set_option maxRecDepth 100000
set_option maxHeartbeats 4000000
open Go.RowKit
theorem intB_len {n : Int} {A : ByteArray} (h : I64 n) (hA : A = ⟨(intL n).toArray⟩) : A.size ≤ 9 := by
 have h2 := (intL_len h).2
 have h3 : A.data.toList.length = (intL n).length := by rw [hA]
 have h4 : A.data.toList.length = A.size := by simp
 omega
theorem rcoreC_any (c : CV) (w : World) (hO : COk c) (hp : c.prev.size ≤ 1000) :
 Calls Tryz.prog 96 #[.agg #[.int .i64 c.office, .int .i64 c.hour, .int .i64 c.inn, .int .i64 c.out, .int .i64 c.store, .string c.prev, .int .i64 c.e, .int .i64 c.s]] w fun e w' => e = .returned (.string ⟨(coreC c).toArray⟩) ∧ Below w.heap.size w w' := by
 obtain ⟨h0, h1, h2, h3, h4, -⟩ := hO
 obtain ⟨A0, hA0⟩ : ∃ A : ByteArray, A = ⟨(intL c.office).toArray⟩ := ⟨_, rfl⟩
 obtain ⟨A1, hA1⟩ : ∃ A : ByteArray, A = ⟨(intL c.hour).toArray⟩ := ⟨_, rfl⟩
 obtain ⟨A2, hA2⟩ : ∃ A : ByteArray, A = ⟨(intL c.inn).toArray⟩ := ⟨_, rfl⟩
 obtain ⟨A3, hA3⟩ : ∃ A : ByteArray, A = ⟨(intL c.out).toArray⟩ := ⟨_, rfl⟩
 obtain ⟨A4, hA4⟩ : ∃ A : ByteArray, A = ⟨(intL c.store).toArray⟩ := ⟨_, rfl⟩
 have H0 : Hid (∀ w0, Calls Tryz.prog 128 #[.int .i64 c.office] w0 fun e w' => e = .returned (.string A0) ∧ Below w0.heap.size w0 w') := Lib.hid (fun w0 => by rw [hA0]; exact rint_any _ _ h0)
 have H1 : Hid (∀ w0, Calls Tryz.prog 128 #[.int .i64 c.hour] w0 fun e w' => e = .returned (.string A1) ∧ Below w0.heap.size w0 w') := Lib.hid (fun w0 => by rw [hA1]; exact rint_any _ _ h1)
 have H2 : Hid (∀ w0, Calls Tryz.prog 128 #[.int .i64 c.inn] w0 fun e w' => e = .returned (.string A2) ∧ Below w0.heap.size w0 w') := Lib.hid (fun w0 => by rw [hA2]; exact rint_any _ _ h2)
 have H3 : Hid (∀ w0, Calls Tryz.prog 128 #[.int .i64 c.out] w0 fun e w' => e = .returned (.string A3) ∧ Below w0.heap.size w0 w') := Lib.hid (fun w0 => by rw [hA3]; exact rint_any _ _ h3)
 have H4 : Hid (∀ w0, Calls Tryz.prog 128 #[.int .i64 c.store] w0 fun e w' => e = .returned (.string A4) ∧ Below w0.heap.size w0 w') := Lib.hid (fun w0 => by rw [hA4]; exact rint_any _ _ h4)
 have s0 := intB_len h0 hA0
 have s1 := intB_len h1 hA1
 have s2 := intB_len h2 hA2
 have s3 := intB_len h3 hA3
 have s4 := intB_len h4 hA4
 obtain ⟨A5, hA5⟩ : ∃ A : ByteArray, A = ⟨(textL c.prev.data.toList).toArray⟩ := ⟨_, rfl⟩
 have HT : Hid (∀ w0, Calls Tryz.prog 91 #[.string c.prev] w0 fun e w' => e = .returned (.string A5) ∧ Below w0.heap.size w0 w') := Lib.hid (fun w0 => by rw [hA5]; exact rtext_any _ _ (by omega))
 have s5 : A5.size ≤ 2002 := by
  have l2 := textL_len c.prev.data.toList
  have l3 : c.prev.data.toList.length = c.prev.size := by simp
  have l4 : A5.data.toList.length = (textL c.prev.data.toList).length := by rw [hA5]
  have l5 : A5.data.toList.length = A5.size := by simp
  omega
 have HAB : Hid ((((((A0 ++ A1) ++ A2) ++ A3) ++ A4) ++ A5) = ⟨(coreC c).toArray⟩) := Lib.hid (by
  rw [hA0, hA1, hA2, hA3, hA4, hA5, catL, catL, catL, catL, catL]
  simp [coreC, textC])
 have z2 : ¬ 9223372036854775807 < A0.size + A1.size := by omega
 have z3 : ¬ 9223372036854775807 < A0.size + A1.size + A2.size := by omega
 have z4 : ¬ 9223372036854775807 < A0.size + A1.size + A2.size + A3.size := by omega
 have z5 : ¬ 9223372036854775807 < A0.size + A1.size + A2.size + A3.size + A4.size := by omega
 have z6 : ¬ 9223372036854775807 < A0.size + A1.size + A2.size + A3.size + A4.size + A5.size := by omega
 clear hA0 hA1 hA2 hA3 hA4 hA5 s0 s1 s2 s3 s4 s5 h0 h1 h2 h3 h4 hp
 go_enter Tryz.func96, Tryz.ntmps96
 go_upto_region 1 with fail
 have HB1 := Lib.hid ((Below.refl w.heap.size w).alloc (Nat.le_refl _) (.cells #[.int .i64 c.office, .int .i64 c.hour, .int .i64 c.inn, .int .i64 c.out, .int .i64 c.store, .string c.prev, .int .i64 c.e, .int .i64 c.s] 63))
 have Kh1 := Lib.hid (heap_alloc_new w (.cells #[.int .i64 c.office, .int .i64 c.hour, .int .i64 c.inn, .int .i64 c.out, .int .i64 c.store, .string c.prev, .int .i64 c.e, .int .i64 c.s] 63))
 generalize w.alloc (.cells #[.int .i64 c.office, .int .i64 c.hour, .int .i64 c.inn, .int .i64 c.out, .int .i64 c.store, .string c.prev, .int .i64 c.e, .int .i64 c.s] 63) = w1 at *
 have HS0 : Hid (w1.drew.heap[w.heap.size]? = some (.cells #[.int .i64 c.office, .int .i64 c.hour, .int .i64 c.inn, .int .i64 c.out, .int .i64 c.store, .string c.prev, .int .i64 c.e, .int .i64 c.s] 63) ∧ w1.drew.cell? ⟨w.heap.size, 0, none⟩ = some (.int .i64 c.office) ∧ w1.drew.cell? ⟨w.heap.size, 1, none⟩ = some (.int .i64 c.hour) ∧ w1.drew.cell? ⟨w.heap.size, 2, none⟩ = some (.int .i64 c.inn) ∧ w1.drew.cell? ⟨w.heap.size, 3, none⟩ = some (.int .i64 c.out) ∧ w1.drew.cell? ⟨w.heap.size, 4, none⟩ = some (.int .i64 c.store) ∧ w1.drew.cell? ⟨w.heap.size, 5, none⟩ = some (.string c.prev) ∧ Below w.heap.size w w1.drew) := Lib.hid ⟨Kh1.out, (cell_of_row _ _ _ _ _ _ Kh1.out).trans rfl, (cell_of_row _ _ _ _ _ _ Kh1.out).trans rfl, (cell_of_row _ _ _ _ _ _ Kh1.out).trans rfl, (cell_of_row _ _ _ _ _ _ Kh1.out).trans rfl, (cell_of_row _ _ _ _ _ _ Kh1.out).trans rfl, (cell_of_row _ _ _ _ _ _ Kh1.out).trans rfl, HB1.out.drew⟩
 clear Kh1 HB1
 refine wp_region_noPanic ?_
 refine wp_region_held_drew (S := fun w' => w'.heap[w.heap.size]? = some (.cells #[.int .i64 c.office, .int .i64 c.hour, .int .i64 c.inn, .int .i64 c.out, .int .i64 c.store, .string c.prev, .int .i64 c.e, .int .i64 c.s] 63) ∧ w'.cell? ⟨w.heap.size, 0, none⟩ = some (.int .i64 c.office) ∧ w'.cell? ⟨w.heap.size, 1, none⟩ = some (.int .i64 c.hour) ∧ w'.cell? ⟨w.heap.size, 2, none⟩ = some (.int .i64 c.inn) ∧ w'.cell? ⟨w.heap.size, 3, none⟩ = some (.int .i64 c.out) ∧ w'.cell? ⟨w.heap.size, 4, none⟩ = some (.int .i64 c.store) ∧ w'.cell? ⟨w.heap.size, 5, none⟩ = some (.string c.prev) ∧ Below w.heap.size w w') (by kernel_rfl) HS0.out (fun hHeld => ?_)
 refine' wpAnyH_take (i := 0) (v := _) (by simp only [List.getElem?_toArray, List.getElem?_cons_zero]; exact rfl) (by kernel_rfl) (by kernel_rfl) (by kernel_rfl) (fun _ _ _ h => h) (Or.inl ⟨by rfl, ?y0x1⟩) hHeld ?r0x1
 case y0x1 => (intro w hSw; (try dsimp only at hSw); go_simp; try with_reducible rfl)
 try simp only [Act.put, List.setIfInBounds_toArray, List.set_cons_zero, List.set_cons_succ]
 refine tm 1 ?_
 refine' wpAnyH_take (i := 3) (v := _) (by simp only [List.getElem?_toArray, List.getElem?_cons_succ, List.getElem?_cons_zero]; exact rfl) (by kernel_rfl) (by kernel_rfl) (by kernel_rfl) (fun _ _ _ h => h) (Or.inl ⟨by rfl, ?y3x3⟩) hHeld ?r3x3
 case y3x3 => (intro w hSw; (try dsimp only at hSw); go_simp; try with_reducible rfl)
 try simp only [Act.put, List.setIfInBounds_toArray, List.set_cons_zero, List.set_cons_succ]
 refine tm 4 ?_
 refine tm 7 ?_
 refine tm 8 ?_
 refine wpAnyH_ready (rs := [2]) (by kernel_rfl) (by simp) ?_
 refine AllReadyH.cons (by simp only [List.getElem?_toArray, List.getElem?_cons_succ, List.getElem?_cons_zero]; exact rfl) (fun K hK => ?_) AllReadyH.nil
 go_simp
 refine (H0.out _).mono ?_
 rintro e w' ⟨rfl, hb⟩
 refine hK.out _ _ (cc_step hHeld hb) (fun hHeld => ?_)
 clear hK K hb
 try simp only [Act.put, List.setIfInBounds_toArray, List.set_cons_zero, List.set_cons_succ]
 refine wpAnyH_ready (rs := [5]) (by kernel_rfl) (by simp) ?_
 refine AllReadyH.cons (by simp only [List.getElem?_toArray, List.getElem?_cons_succ, List.getElem?_cons_zero]; exact rfl) (fun K hK => ?_) AllReadyH.nil
 go_simp
 refine (H1.out _).mono ?_
 rintro e w' ⟨rfl, hb⟩
 refine hK.out _ _ (cc_step hHeld hb) (fun hHeld => ?_)
 clear hK K hb
 try simp only [Act.put, List.setIfInBounds_toArray, List.set_cons_zero, List.set_cons_succ]
 refine tm 6 ?_
 refine wpAnyH_ready (rs := [9]) (by kernel_rfl) (by simp) ?_
 refine AllReadyH.cons (by simp only [List.getElem?_toArray, List.getElem?_cons_succ, List.getElem?_cons_zero]; exact rfl) (fun K hK => ?_) AllReadyH.nil
 go_simp
 refine (H2.out _).mono ?_
 rintro e w' ⟨rfl, hb⟩
 refine hK.out _ _ (cc_step hHeld hb) (fun hHeld => ?_)
 clear hK K hb
 try simp only [Act.put, List.setIfInBounds_toArray, List.set_cons_zero, List.set_cons_succ]
 refine tm 10 ?_
 refine tm 11 ?_
 refine wpAnyH_done (by kernel_rfl) ?_ _
 refine NoPanic.normal ?_
 have HS1 := Lib.hid (cc_stepN hHeld 1)
 clear HS0 hHeld
 go_upto_region 2 with fail
 refine wp_region_noPanic ?_
 refine wp_region_held_drew (S := fun w' => w'.heap[w.heap.size]? = some (.cells #[.int .i64 c.office, .int .i64 c.hour, .int .i64 c.inn, .int .i64 c.out, .int .i64 c.store, .string c.prev, .int .i64 c.e, .int .i64 c.s] 63) ∧ w'.cell? ⟨w.heap.size, 0, none⟩ = some (.int .i64 c.office) ∧ w'.cell? ⟨w.heap.size, 1, none⟩ = some (.int .i64 c.hour) ∧ w'.cell? ⟨w.heap.size, 2, none⟩ = some (.int .i64 c.inn) ∧ w'.cell? ⟨w.heap.size, 3, none⟩ = some (.int .i64 c.out) ∧ w'.cell? ⟨w.heap.size, 4, none⟩ = some (.int .i64 c.store) ∧ w'.cell? ⟨w.heap.size, 5, none⟩ = some (.string c.prev) ∧ Below w.heap.size w w') (by kernel_rfl) HS1.out (fun hHeld => ?_)
 refine tm 0 ?_
 refine tm 1 ?_
 refine tm 2 ?_
 refine tm 5 ?_
 refine tm 6 ?_
 refine tm 9 ?_
 refine tm 10 ?_
 refine wpAnyH_ready (rs := [3]) (by kernel_rfl) (by simp) ?_
 refine AllReadyH.cons (by simp only [List.getElem?_toArray, List.getElem?_cons_succ, List.getElem?_cons_zero]; exact rfl) (fun K hK => ?_) AllReadyH.nil
 go_simp
 refine (H3.out _).mono ?_
 rintro e w' ⟨rfl, hb⟩
 refine hK.out _ _ (cc_step hHeld hb) (fun hHeld => ?_)
 clear hK K hb
 try simp only [Act.put, List.setIfInBounds_toArray, List.set_cons_zero, List.set_cons_succ]
 refine tm 4 ?_
 refine wpAnyH_ready (rs := [7]) (by kernel_rfl) (by simp) ?_
 refine AllReadyH.cons (by simp only [List.getElem?_toArray, List.getElem?_cons_succ, List.getElem?_cons_zero]; exact rfl) (fun K hK => ?_) AllReadyH.nil
 go_simp
 refine (H4.out _).mono ?_
 rintro e w' ⟨rfl, hb⟩
 refine hK.out _ _ (cc_step hHeld hb) (fun hHeld => ?_)
 clear hK K hb
 try simp only [Act.put, List.setIfInBounds_toArray, List.set_cons_zero, List.set_cons_succ]
 refine tm 8 ?_
 refine wpAnyH_ready (rs := [11]) (by kernel_rfl) (by simp) ?_
 refine AllReadyH.cons (by simp only [List.getElem?_toArray, List.getElem?_cons_succ, List.getElem?_cons_zero]; exact rfl) (fun K hK => ?_) AllReadyH.nil
 go_simp
 refine (HT.out _).mono ?_
 rintro e w' ⟨rfl, hb⟩
 refine hK.out _ _ (cc_step hHeld hb) (fun hHeld => ?_)
 clear hK K hb
 try simp only [Act.put, List.setIfInBounds_toArray, List.set_cons_zero, List.set_cons_succ]
 refine tm 12 ?_
 refine tm 13 ?_
 refine wpAnyH_done (by kernel_rfl) ?_ _
 refine NoPanic.normal ?_
 have HBf := Lib.hid hHeld.2.2.2.2.2.2.2
 go_wp2_with fail
 go_ret
 exact ⟨by rw [← HAB.out]; rfl, HBf.out⟩
theorem rcoreP_any (c : PV) (w : World) (hO : POk c) :
 Calls Tryz.prog 97 #[.agg #[.int .i64 c.office, .int .i64 c.since, .int .i64 c.till, .int .i64 c.litres, .int .i64 c.e, .int .i64 c.s]] w fun e w' => e = .returned (.string ⟨(coreP c).toArray⟩) ∧ Below w.heap.size w w' := by
 obtain ⟨h0, h1, h2, h3, -⟩ := hO
 obtain ⟨A0, hA0⟩ : ∃ A : ByteArray, A = ⟨(intL c.office).toArray⟩ := ⟨_, rfl⟩
 obtain ⟨A1, hA1⟩ : ∃ A : ByteArray, A = ⟨(intL c.since).toArray⟩ := ⟨_, rfl⟩
 obtain ⟨A2, hA2⟩ : ∃ A : ByteArray, A = ⟨(intL c.till).toArray⟩ := ⟨_, rfl⟩
 obtain ⟨A3, hA3⟩ : ∃ A : ByteArray, A = ⟨(intL c.litres).toArray⟩ := ⟨_, rfl⟩
 have H0 : Hid (∀ w0, Calls Tryz.prog 128 #[.int .i64 c.office] w0 fun e w' => e = .returned (.string A0) ∧ Below w0.heap.size w0 w') := Lib.hid (fun w0 => by rw [hA0]; exact rint_any _ _ h0)
 have H1 : Hid (∀ w0, Calls Tryz.prog 128 #[.int .i64 c.since] w0 fun e w' => e = .returned (.string A1) ∧ Below w0.heap.size w0 w') := Lib.hid (fun w0 => by rw [hA1]; exact rint_any _ _ h1)
 have H2 : Hid (∀ w0, Calls Tryz.prog 128 #[.int .i64 c.till] w0 fun e w' => e = .returned (.string A2) ∧ Below w0.heap.size w0 w') := Lib.hid (fun w0 => by rw [hA2]; exact rint_any _ _ h2)
 have H3 : Hid (∀ w0, Calls Tryz.prog 128 #[.int .i64 c.litres] w0 fun e w' => e = .returned (.string A3) ∧ Below w0.heap.size w0 w') := Lib.hid (fun w0 => by rw [hA3]; exact rint_any _ _ h3)
 have s0 := intB_len h0 hA0
 have s1 := intB_len h1 hA1
 have s2 := intB_len h2 hA2
 have s3 := intB_len h3 hA3
 have HAB : Hid ((((A0 ++ A1) ++ A2) ++ A3) = ⟨(coreP c).toArray⟩) := Lib.hid (by
  rw [hA0, hA1, hA2, hA3, catL, catL, catL]
  simp [coreP])
 have z2 : ¬ 9223372036854775807 < A0.size + A1.size := by omega
 have z3 : ¬ 9223372036854775807 < A0.size + A1.size + A2.size := by omega
 have z4 : ¬ 9223372036854775807 < A0.size + A1.size + A2.size + A3.size := by omega
 clear hA0 hA1 hA2 hA3 s0 s1 s2 s3 h0 h1 h2 h3
 go_enter Tryz.func97, Tryz.ntmps97
 go_upto_region 1 with fail
 have HB1 := Lib.hid ((Below.refl w.heap.size w).alloc (Nat.le_refl _) (.cells #[.int .i64 c.office, .int .i64 c.since, .int .i64 c.till, .int .i64 c.litres, .int .i64 c.e, .int .i64 c.s] 38))
 have Kh1 := Lib.hid (heap_alloc_new w (.cells #[.int .i64 c.office, .int .i64 c.since, .int .i64 c.till, .int .i64 c.litres, .int .i64 c.e, .int .i64 c.s] 38))
 generalize w.alloc (.cells #[.int .i64 c.office, .int .i64 c.since, .int .i64 c.till, .int .i64 c.litres, .int .i64 c.e, .int .i64 c.s] 38) = w1 at *
 have HS0 : Hid (w1.drew.heap[w.heap.size]? = some (.cells #[.int .i64 c.office, .int .i64 c.since, .int .i64 c.till, .int .i64 c.litres, .int .i64 c.e, .int .i64 c.s] 38) ∧ w1.drew.cell? ⟨w.heap.size, 0, none⟩ = some (.int .i64 c.office) ∧ w1.drew.cell? ⟨w.heap.size, 1, none⟩ = some (.int .i64 c.since) ∧ w1.drew.cell? ⟨w.heap.size, 2, none⟩ = some (.int .i64 c.till) ∧ w1.drew.cell? ⟨w.heap.size, 3, none⟩ = some (.int .i64 c.litres) ∧ w1.drew.cell? ⟨w.heap.size, 4, none⟩ = some (.int .i64 c.e) ∧ w1.drew.cell? ⟨w.heap.size, 5, none⟩ = some (.int .i64 c.s) ∧ Below w.heap.size w w1.drew) := Lib.hid ⟨Kh1.out, (cell_of_row _ _ _ _ _ _ Kh1.out).trans rfl, (cell_of_row _ _ _ _ _ _ Kh1.out).trans rfl, (cell_of_row _ _ _ _ _ _ Kh1.out).trans rfl, (cell_of_row _ _ _ _ _ _ Kh1.out).trans rfl, (cell_of_row _ _ _ _ _ _ Kh1.out).trans rfl, (cell_of_row _ _ _ _ _ _ Kh1.out).trans rfl, HB1.out.drew⟩
 clear Kh1 HB1
 refine wp_region_noPanic ?_
 refine wp_region_held_drew (S := fun w' => w'.heap[w.heap.size]? = some (.cells #[.int .i64 c.office, .int .i64 c.since, .int .i64 c.till, .int .i64 c.litres, .int .i64 c.e, .int .i64 c.s] 38) ∧ w'.cell? ⟨w.heap.size, 0, none⟩ = some (.int .i64 c.office) ∧ w'.cell? ⟨w.heap.size, 1, none⟩ = some (.int .i64 c.since) ∧ w'.cell? ⟨w.heap.size, 2, none⟩ = some (.int .i64 c.till) ∧ w'.cell? ⟨w.heap.size, 3, none⟩ = some (.int .i64 c.litres) ∧ w'.cell? ⟨w.heap.size, 4, none⟩ = some (.int .i64 c.e) ∧ w'.cell? ⟨w.heap.size, 5, none⟩ = some (.int .i64 c.s) ∧ Below w.heap.size w w') (by kernel_rfl) HS0.out (fun hHeld => ?_)
 refine tm 0 ?_
 refine tm 1 ?_
 refine tm 3 ?_
 refine tm 4 ?_
 refine tm 7 ?_
 refine tm 8 ?_
 refine tm 11 ?_
 refine tm 12 ?_
 refine wpAnyH_ready (rs := [2]) (by kernel_rfl) (by simp) ?_
 refine AllReadyH.cons (by simp only [List.getElem?_toArray, List.getElem?_cons_succ, List.getElem?_cons_zero]; exact rfl) (fun K hK => ?_) AllReadyH.nil
 go_simp
 refine (H0.out _).mono ?_
 rintro e w' ⟨rfl, hb⟩
 refine hK.out _ _ (bp_step hHeld hb) (fun hHeld => ?_)
 clear hK K hb
 try simp only [Act.put, List.setIfInBounds_toArray, List.set_cons_zero, List.set_cons_succ]
 refine wpAnyH_ready (rs := [5]) (by kernel_rfl) (by simp) ?_
 refine AllReadyH.cons (by simp only [List.getElem?_toArray, List.getElem?_cons_succ, List.getElem?_cons_zero]; exact rfl) (fun K hK => ?_) AllReadyH.nil
 go_simp
 refine (H1.out _).mono ?_
 rintro e w' ⟨rfl, hb⟩
 refine hK.out _ _ (bp_step hHeld hb) (fun hHeld => ?_)
 clear hK K hb
 try simp only [Act.put, List.setIfInBounds_toArray, List.set_cons_zero, List.set_cons_succ]
 refine tm 6 ?_
 refine wpAnyH_ready (rs := [9]) (by kernel_rfl) (by simp) ?_
 refine AllReadyH.cons (by simp only [List.getElem?_toArray, List.getElem?_cons_succ, List.getElem?_cons_zero]; exact rfl) (fun K hK => ?_) AllReadyH.nil
 go_simp
 refine (H2.out _).mono ?_
 rintro e w' ⟨rfl, hb⟩
 refine hK.out _ _ (bp_step hHeld hb) (fun hHeld => ?_)
 clear hK K hb
 try simp only [Act.put, List.setIfInBounds_toArray, List.set_cons_zero, List.set_cons_succ]
 refine tm 10 ?_
 refine wpAnyH_ready (rs := [13]) (by kernel_rfl) (by simp) ?_
 refine AllReadyH.cons (by simp only [List.getElem?_toArray, List.getElem?_cons_succ, List.getElem?_cons_zero]; exact rfl) (fun K hK => ?_) AllReadyH.nil
 go_simp
 refine (H3.out _).mono ?_
 rintro e w' ⟨rfl, hb⟩
 refine hK.out _ _ (bp_step hHeld hb) (fun hHeld => ?_)
 clear hK K hb
 try simp only [Act.put, List.setIfInBounds_toArray, List.set_cons_zero, List.set_cons_succ]
 refine tm 14 ?_
 refine tm 15 ?_
 refine wpAnyH_done (by kernel_rfl) ?_ _
 refine NoPanic.normal ?_
 have HBf := Lib.hid hHeld.2.2.2.2.2.2.2
 go_wp2_with fail
 go_ret
 exact ⟨by rw [← HAB.out]; rfl, HBf.out⟩
theorem rverifyC_any (p : Int) (c : CV) (w : World) (hpi : I64 p) (hO : COk c) (hp : c.prev.size ≤ 900) :
 Calls Tryz.prog 71 #[.int .i64 p, .agg #[.int .i64 c.office, .int .i64 c.hour, .int .i64 c.inn, .int .i64 c.out, .int .i64 c.store, .string c.prev, .int .i64 c.e, .int .i64 c.s]] w fun e w' => e = .returned (.bool (decide (VouchedC p c))) ∧ Below w.heap.size w w' := by
 obtain ⟨A, hA⟩ : ∃ A : ByteArray, A = ⟨(coreC c).toArray⟩ := ⟨_, rfl⟩
 have HCo : Hid (∀ w0, Calls Tryz.prog 96 #[.agg #[.int .i64 c.office, .int .i64 c.hour, .int .i64 c.inn, .int .i64 c.out, .int .i64 c.store, .string c.prev, .int .i64 c.e, .int .i64 c.s]] w0 fun e w' => e = .returned (.string A) ∧ Below w0.heap.size w0 w') := Lib.hid (fun w0 => by
  rw [hA]
  exact rcoreC_any c w0 hO (by omega))
 have hAs : A.size ≤ 2000 := by
  have l2 := textL_len c.prev.data.toList
  have l3 : c.prev.data.toList.length = c.prev.size := by simp
  have h : (coreC c).length ≤ 1900 := by
   obtain ⟨h1, h2, h3, h4, h5, -⟩ := hO
   have := intL_len h1; have := intL_len h2; have := intL_len h3; have := intL_len h4; have := intL_len h5
   simp [coreC, textC]
   omega
  have h2 : A.data.toList.length ≤ 2000 := by rw [hA]; show (coreC c).length ≤ 2000; omega
  exact h2
 obtain ⟨b, hb⟩ : ∃ b, b = decide (VouchedC p c) := ⟨_, rfl⟩
 have HV : Hid (∀ w0, Calls Tryz.prog 95 #[.int .i64 p, .string ⟨#[99, 108, 97, 105, 109]⟩, .string A, .agg #[.int .i64 c.e, .int .i64 c.s]] w0 fun e w' => e = .returned (.bool b) ∧ Below w0.heap.size w0 w') := Lib.hid (fun w0 => by
  have h := rverify_any p c.e c.s ⟨#[99, 108, 97, 105, 109]⟩ A w0 hpi (by decide) hAs
  have e : A.data.toList = coreC c := by rw [hA]
  rw [e] at h
  rw [hb]
  exact h)
 rw [← hb]
 clear hA hAs hb hO hpi hp
 go_enter Tryz.func71, Tryz.ntmps71
 go_upto_region 1 with fail
 have HB1 := Lib.hid ((Below.refl w.heap.size w).alloc (Nat.le_refl _) (.cells #[.int .i64 c.office, .int .i64 c.hour, .int .i64 c.inn, .int .i64 c.out, .int .i64 c.store, .string c.prev, .int .i64 c.e, .int .i64 c.s] 63))
 have Kh1 := Lib.hid (heap_alloc_new w (.cells #[.int .i64 c.office, .int .i64 c.hour, .int .i64 c.inn, .int .i64 c.out, .int .i64 c.store, .string c.prev, .int .i64 c.e, .int .i64 c.s] 63))
 generalize w.alloc (.cells #[.int .i64 c.office, .int .i64 c.hour, .int .i64 c.inn, .int .i64 c.out, .int .i64 c.store, .string c.prev, .int .i64 c.e, .int .i64 c.s] 63) = w1 at *
 have HS0 : Hid (w1.heap[w.heap.size]? = some (.cells #[.int .i64 c.office, .int .i64 c.hour, .int .i64 c.inn, .int .i64 c.out, .int .i64 c.store, .string c.prev, .int .i64 c.e, .int .i64 c.s] 63) ∧ w1.cell? ⟨w.heap.size, 0, none⟩ = some (.int .i64 c.office) ∧ w1.cell? ⟨w.heap.size, 1, none⟩ = some (.int .i64 c.hour) ∧ w1.cell? ⟨w.heap.size, 2, none⟩ = some (.int .i64 c.inn) ∧ w1.cell? ⟨w.heap.size, 3, none⟩ = some (.int .i64 c.out) ∧ w1.cell? ⟨w.heap.size, 4, none⟩ = some (.int .i64 c.store) ∧ w1.cell? ⟨w.heap.size, 5, none⟩ = some (.string c.prev) ∧ w1.cell? ⟨w.heap.size, 6, none⟩ = some (.int .i64 c.e) ∧ w1.cell? ⟨w.heap.size, 7, none⟩ = some (.int .i64 c.s) ∧ Below w.heap.size w w1) := Lib.hid ⟨Kh1.out, (cell_of_row _ _ _ _ _ _ Kh1.out).trans rfl, (cell_of_row _ _ _ _ _ _ Kh1.out).trans rfl, (cell_of_row _ _ _ _ _ _ Kh1.out).trans rfl, (cell_of_row _ _ _ _ _ _ Kh1.out).trans rfl, (cell_of_row _ _ _ _ _ _ Kh1.out).trans rfl, (cell_of_row _ _ _ _ _ _ Kh1.out).trans rfl, (cell_of_row _ _ _ _ _ _ Kh1.out).trans rfl, (cell_of_row _ _ _ _ _ _ Kh1.out).trans rfl, HB1.out⟩
 clear Kh1 HB1
 go_region_held3 (fun w' => w'.heap[w.heap.size]? = some (.cells #[.int .i64 c.office, .int .i64 c.hour, .int .i64 c.inn, .int .i64 c.out, .int .i64 c.store, .string c.prev, .int .i64 c.e, .int .i64 c.s] 63) ∧ w'.cell? ⟨w.heap.size, 0, none⟩ = some (.int .i64 c.office) ∧ w'.cell? ⟨w.heap.size, 1, none⟩ = some (.int .i64 c.hour) ∧ w'.cell? ⟨w.heap.size, 2, none⟩ = some (.int .i64 c.inn) ∧ w'.cell? ⟨w.heap.size, 3, none⟩ = some (.int .i64 c.out) ∧ w'.cell? ⟨w.heap.size, 4, none⟩ = some (.int .i64 c.store) ∧ w'.cell? ⟨w.heap.size, 5, none⟩ = some (.string c.prev) ∧ w'.cell? ⟨w.heap.size, 6, none⟩ = some (.int .i64 c.e) ∧ w'.cell? ⟨w.heap.size, 7, none⟩ = some (.int .i64 c.s) ∧ Below w.heap.size w w') (first | assumption | exact HS0.out | exact bc_step (by assumption) hb | exact bc_stepN (by assumption) _ | exact bc_stepA (by assumption) | exact bc_stepU (by assumption) | exact bc_stepN (bc_stepU (by assumption)) _) ((first | (go_at_call 96; refine (HCo.out _).mono ?_; rintro e w' ⟨rfl, hb⟩) | (go_at_call 95; refine (HV.out _).mono ?_; rintro e w' ⟨rfl, hb⟩)))
 rename World => w2
 rename _ ∧ _ => hFin
 obtain ⟨qK, -, -, -, -, -, -, -, -, qBel⟩ := hFin
 have Kh2 := Lib.hid qK
 have HB2 := Lib.hid qBel
 clear HS0 qBel qK
 have cK0 : w2.cell? ⟨w.heap.size, 0, none⟩ = some (.int .i64 c.office) := (cell_of_row _ _ _ _ _ _ Kh2.out).trans rfl
 have cK1 : w2.cell? ⟨w.heap.size, 1, none⟩ = some (.int .i64 c.hour) := (cell_of_row _ _ _ _ _ _ Kh2.out).trans rfl
 have cK2 : w2.cell? ⟨w.heap.size, 2, none⟩ = some (.int .i64 c.inn) := (cell_of_row _ _ _ _ _ _ Kh2.out).trans rfl
 have cK3 : w2.cell? ⟨w.heap.size, 3, none⟩ = some (.int .i64 c.out) := (cell_of_row _ _ _ _ _ _ Kh2.out).trans rfl
 have cK4 : w2.cell? ⟨w.heap.size, 4, none⟩ = some (.int .i64 c.store) := (cell_of_row _ _ _ _ _ _ Kh2.out).trans rfl
 have cK5 : w2.cell? ⟨w.heap.size, 5, none⟩ = some (.string c.prev) := (cell_of_row _ _ _ _ _ _ Kh2.out).trans rfl
 have cK6 : w2.cell? ⟨w.heap.size, 6, none⟩ = some (.int .i64 c.e) := (cell_of_row _ _ _ _ _ _ Kh2.out).trans rfl
 have cK7 : w2.cell? ⟨w.heap.size, 7, none⟩ = some (.int .i64 c.s) := (cell_of_row _ _ _ _ _ _ Kh2.out).trans rfl
 go_wp2_with fail
 go_ret
 exact ⟨rfl, HB2.out⟩
theorem rverifyP_any (p : Int) (c : PV) (w : World) (hpi : I64 p) (hO : POk c) :
 Calls Tryz.prog 72 #[.int .i64 p, .agg #[.int .i64 c.office, .int .i64 c.since, .int .i64 c.till, .int .i64 c.litres, .int .i64 c.e, .int .i64 c.s]] w fun e w' => e = .returned (.bool (decide (VouchedP p c))) ∧ Below w.heap.size w w' := by
 obtain ⟨A, hA⟩ : ∃ A : ByteArray, A = ⟨(coreP c).toArray⟩ := ⟨_, rfl⟩
 have HCo : Hid (∀ w0, Calls Tryz.prog 97 #[.agg #[.int .i64 c.office, .int .i64 c.since, .int .i64 c.till, .int .i64 c.litres, .int .i64 c.e, .int .i64 c.s]] w0 fun e w' => e = .returned (.string A) ∧ Below w0.heap.size w0 w') := Lib.hid (fun w0 => by
  rw [hA]
  exact rcoreP_any c w0 hO)
 have hAs : A.size ≤ 2000 := by
  have h := coreP_len hO
  have h2 : A.data.toList.length ≤ 2000 := by rw [hA]; show (coreP c).length ≤ 2000; omega
  exact h2
 obtain ⟨b, hb⟩ : ∃ b, b = decide (VouchedP p c) := ⟨_, rfl⟩
 have HV : Hid (∀ w0, Calls Tryz.prog 95 #[.int .i64 p, .string ⟨#[112, 114, 111, 109, 105, 115, 101]⟩, .string A, .agg #[.int .i64 c.e, .int .i64 c.s]] w0 fun e w' => e = .returned (.bool b) ∧ Below w0.heap.size w0 w') := Lib.hid (fun w0 => by
  have h := rverify_any p c.e c.s ⟨#[112, 114, 111, 109, 105, 115, 101]⟩ A w0 hpi (by decide) hAs
  have e : A.data.toList = coreP c := by rw [hA]
  rw [e] at h
  rw [hb]
  exact h)
 rw [← hb]
 clear hA hAs hb hO hpi
 go_enter Tryz.func72, Tryz.ntmps72
 go_upto_region 1 with fail
 have HB1 := Lib.hid ((Below.refl w.heap.size w).alloc (Nat.le_refl _) (.cells #[.int .i64 c.office, .int .i64 c.since, .int .i64 c.till, .int .i64 c.litres, .int .i64 c.e, .int .i64 c.s] 38))
 have Kh1 := Lib.hid (heap_alloc_new w (.cells #[.int .i64 c.office, .int .i64 c.since, .int .i64 c.till, .int .i64 c.litres, .int .i64 c.e, .int .i64 c.s] 38))
 generalize w.alloc (.cells #[.int .i64 c.office, .int .i64 c.since, .int .i64 c.till, .int .i64 c.litres, .int .i64 c.e, .int .i64 c.s] 38) = w1 at *
 have HS0 : Hid (w1.heap[w.heap.size]? = some (.cells #[.int .i64 c.office, .int .i64 c.since, .int .i64 c.till, .int .i64 c.litres, .int .i64 c.e, .int .i64 c.s] 38) ∧ w1.cell? ⟨w.heap.size, 0, none⟩ = some (.int .i64 c.office) ∧ w1.cell? ⟨w.heap.size, 1, none⟩ = some (.int .i64 c.since) ∧ w1.cell? ⟨w.heap.size, 2, none⟩ = some (.int .i64 c.till) ∧ w1.cell? ⟨w.heap.size, 3, none⟩ = some (.int .i64 c.litres) ∧ w1.cell? ⟨w.heap.size, 4, none⟩ = some (.int .i64 c.e) ∧ w1.cell? ⟨w.heap.size, 5, none⟩ = some (.int .i64 c.s) ∧ Below w.heap.size w w1) := Lib.hid ⟨Kh1.out, (cell_of_row _ _ _ _ _ _ Kh1.out).trans rfl, (cell_of_row _ _ _ _ _ _ Kh1.out).trans rfl, (cell_of_row _ _ _ _ _ _ Kh1.out).trans rfl, (cell_of_row _ _ _ _ _ _ Kh1.out).trans rfl, (cell_of_row _ _ _ _ _ _ Kh1.out).trans rfl, (cell_of_row _ _ _ _ _ _ Kh1.out).trans rfl, HB1.out⟩
 clear Kh1 HB1
 go_region_held3 (fun w' => w'.heap[w.heap.size]? = some (.cells #[.int .i64 c.office, .int .i64 c.since, .int .i64 c.till, .int .i64 c.litres, .int .i64 c.e, .int .i64 c.s] 38) ∧ w'.cell? ⟨w.heap.size, 0, none⟩ = some (.int .i64 c.office) ∧ w'.cell? ⟨w.heap.size, 1, none⟩ = some (.int .i64 c.since) ∧ w'.cell? ⟨w.heap.size, 2, none⟩ = some (.int .i64 c.till) ∧ w'.cell? ⟨w.heap.size, 3, none⟩ = some (.int .i64 c.litres) ∧ w'.cell? ⟨w.heap.size, 4, none⟩ = some (.int .i64 c.e) ∧ w'.cell? ⟨w.heap.size, 5, none⟩ = some (.int .i64 c.s) ∧ Below w.heap.size w w') (first | assumption | exact HS0.out | exact bp_step (by assumption) hb | exact bp_stepN (by assumption) _ | exact bp_stepA (by assumption) | exact bp_stepU (by assumption) | exact bp_stepN (bp_stepU (by assumption)) _) ((first | (go_at_call 97; refine (HCo.out _).mono ?_; rintro e w' ⟨rfl, hb⟩) | (go_at_call 95; refine (HV.out _).mono ?_; rintro e w' ⟨rfl, hb⟩)))
 rename World => w2
 rename _ ∧ _ => hFin
 obtain ⟨qK, -, -, -, -, -, -, qBel⟩ := hFin
 have Kh2 := Lib.hid qK
 have HB2 := Lib.hid qBel
 clear HS0 qBel qK
 have cK0 : w2.cell? ⟨w.heap.size, 0, none⟩ = some (.int .i64 c.office) := (cell_of_row _ _ _ _ _ _ Kh2.out).trans rfl
 have cK1 : w2.cell? ⟨w.heap.size, 1, none⟩ = some (.int .i64 c.since) := (cell_of_row _ _ _ _ _ _ Kh2.out).trans rfl
 have cK2 : w2.cell? ⟨w.heap.size, 2, none⟩ = some (.int .i64 c.till) := (cell_of_row _ _ _ _ _ _ Kh2.out).trans rfl
 have cK3 : w2.cell? ⟨w.heap.size, 3, none⟩ = some (.int .i64 c.litres) := (cell_of_row _ _ _ _ _ _ Kh2.out).trans rfl
 have cK4 : w2.cell? ⟨w.heap.size, 4, none⟩ = some (.int .i64 c.e) := (cell_of_row _ _ _ _ _ _ Kh2.out).trans rfl
 have cK5 : w2.cell? ⟨w.heap.size, 5, none⟩ = some (.int .i64 c.s) := (cell_of_row _ _ _ _ _ _ Kh2.out).trans rfl
 go_wp2_with fail
 go_ret
 exact ⟨rfl, HB2.out⟩
end Go.Proofs.YtjbjpkhibcnenaaGreatDoor
/- slices.Sort and slices.Compact at []int, by contract (laid by the shelf of the kit, in plain words). -/
namespace Go.Proofs
open Go.Shelf
def Tryz.lays189_ren : Go.Shelf.Ren := ⟨fun | 189 => 47 | 125 => 84 | 257 => 83 | 128 => 110 | 129 => 111 | 294 => 101 | 295 => 102 | 296 => 103 | 297 => 104 | 298 => 105 | 299 => 106 | 216 => 107 | 300 => 108 | 301 => 109 | 328 => 130 | 329 => 131 | 330 => 132 | 331 => 133 | 332 => 134 | 215 => 135 | 343 => 150 | n => n, fun | 28 => 29 | 3 => 3 | 46 => 127 | 0 => 0 | 51 => 148 | 53 => 150 | 4 => 4 | 183 => 140 | 182 => 139 | 131 => 145 | 5 => 5 | 9 => 9 | 218 => 158 | 222 => 162 | 228 => 171 | 229 => 172 | n => n, fun | n => n⟩
theorem Tryz.lays189 : Go.Proofs.Lays.n189 Tryz.prog Tryz.lays189_ren := {
 mixed := by kernel_rfl
 f125 := Tryz.func84.trans (congrArg some (by kernel_rfl))
 f128 := Tryz.func110.trans (congrArg some (by kernel_rfl))
 f129 := Tryz.func111.trans (congrArg some (by kernel_rfl))
 f189 := Tryz.func47.trans (congrArg some (by kernel_rfl))
 f215 := Tryz.func135.trans (congrArg some (by kernel_rfl))
 f216 := Tryz.func107.trans (congrArg some (by kernel_rfl))
 f257 := Tryz.func83.trans (congrArg some (by kernel_rfl))
 f294 := Tryz.func101.trans (congrArg some (by kernel_rfl))
 f295 := Tryz.func102.trans (congrArg some (by kernel_rfl))
 f296 := Tryz.func103.trans (congrArg some (by kernel_rfl))
 f297 := Tryz.func104.trans (congrArg some (by kernel_rfl))
 f298 := Tryz.func105.trans (congrArg some (by kernel_rfl))
 f299 := Tryz.func106.trans (congrArg some (by kernel_rfl))
 f300 := Tryz.func108.trans (congrArg some (by kernel_rfl))
 f301 := Tryz.func109.trans (congrArg some (by kernel_rfl))
 f328 := Tryz.func130.trans (congrArg some (by kernel_rfl))
 f329 := Tryz.func131.trans (congrArg some (by kernel_rfl))
 f330 := Tryz.func132.trans (congrArg some (by kernel_rfl))
 f331 := Tryz.func133.trans (congrArg some (by kernel_rfl))
 f332 := Tryz.func134.trans (congrArg some (by kernel_rfl))
 f343 := Tryz.func150.trans (congrArg some (by kernel_rfl))
 t0 := Tryz.underlying0
 a0 := Tryz.isAgg0
 z0 := Tryz.sizeOf0
 v0 := Tryz.zeroValue0
 t3 := Tryz.underlying3
 a3 := Tryz.isAgg3
 z3 := Tryz.sizeOf3
 v3 := Tryz.zeroValue3
 t4 := Tryz.underlying4
 a4 := Tryz.isAgg4
 z4 := Tryz.sizeOf4
 v4 := Tryz.zeroValue4
 t5 := Tryz.underlying5
 a5 := Tryz.isAgg5
 z5 := Tryz.sizeOf5
 v5 := Tryz.zeroValue5
 t9 := Tryz.underlying9
 a9 := Tryz.isAgg9
 z9 := Tryz.sizeOf9
 v9 := Tryz.zeroValue9
 t28 := Tryz.underlying29
 a28 := Tryz.isAgg29
 z28 := Tryz.sizeOf29
 v28 := Tryz.zeroValue29
 t46 := Tryz.underlying127
 a46 := Tryz.isAgg127
 z46 := Tryz.sizeOf127
 v46 := Tryz.zeroValue127
 t51 := Tryz.underlying148
 a51 := Tryz.isAgg148
 z51 := Tryz.sizeOf148
 v51 := Tryz.zeroValue148
 t53 := Tryz.underlying150
 a53 := Tryz.isAgg150
 z53 := Tryz.sizeOf150
 v53 := Tryz.zeroValue150
 t131 := Tryz.underlying145
 a131 := Tryz.isAgg145
 z131 := Tryz.sizeOf145
 v131 := Tryz.zeroValue145
 t182 := Tryz.underlying139
 a182 := Tryz.isAgg139
 z182 := Tryz.sizeOf139
 v182 := Tryz.zeroValue139
 t183 := Tryz.underlying140
 a183 := Tryz.isAgg140
 z183 := Tryz.sizeOf140
 v183 := Tryz.zeroValue140
 t218 := Tryz.underlying158
 a218 := Tryz.isAgg158
 z218 := Tryz.sizeOf158
 v218 := Tryz.zeroValue158
 t222 := Tryz.underlying162
 a222 := Tryz.isAgg162
 z222 := Tryz.sizeOf162
 v222 := Tryz.zeroValue162
 t228 := Tryz.underlying171
 a228 := Tryz.isAgg171
 z228 := Tryz.sizeOf171
 v228 := Tryz.zeroValue171
 t229 := Tryz.underlying172
 a229 := Tryz.isAgg172
 z229 := Tryz.sizeOf172
 v229 := Tryz.zeroValue172 }
open Go.Sort Go.RowKit in
theorem Tryz.slices_Sort_int (blk off cap : Nat) (zs : List Int) (w : World) (hH : Holds (Value.int .i64) w blk off zs.toArray) (hblk : blk < w.heap.size) (hsz : zs.length < 4611686018427387904) :
 Calls Tryz.prog 47 #[.slice (some ⟨blk, off, none⟩) zs.length cap] w fun e w' =>
  e = .returned (.tuple #[]) ∧ ∃ n os, w' = grow (putRow (Value.int .i64) (Sort.ahead w n) blk off (zs.mergeSort fun x y => decide (x ≤ y)).toArray) os := Any.slices_Sort_int Tryz.lays189 blk off cap zs w hH hblk hsz
open Go.RowKit Go.Sort in
theorem Tryz.slices_Sort_int_none (p : Option Addr) (cap : Nat) (w : World) :
 Calls Tryz.prog 47 #[.slice p 0 cap] w fun e w' => e = .returned (.tuple #[]) ∧ w' = w := Any.slices_Sort_int_none Tryz.lays189 p cap w
def Tryz.laysNm220_ren : Go.Shelf.Ren := ⟨fun | 20 => 48 | n => n, fun | 22 => 29 | 3 => 3 | 4 => 4 | 0 => 0 | n => n, fun | n => n⟩
theorem Tryz.laysNm220 : Go.Proofs.Lays2.n20 Tryz.prog Tryz.laysNm220_ren := {
 mixed := by kernel_rfl
 f20 := Tryz.func48.trans (congrArg some (by kernel_rfl))
 t0 := Tryz.underlying0
 a0 := Tryz.isAgg0
 z0 := Tryz.sizeOf0
 v0 := Tryz.zeroValue0
 t3 := Tryz.underlying3
 a3 := Tryz.isAgg3
 z3 := Tryz.sizeOf3
 v3 := Tryz.zeroValue3
 t4 := Tryz.underlying4
 a4 := Tryz.isAgg4
 z4 := Tryz.sizeOf4
 v4 := Tryz.zeroValue4
 t22 := Tryz.underlying29
 a22 := Tryz.isAgg29
 z22 := Tryz.sizeOf29
 v22 := Tryz.zeroValue29
 i3 := by kernel_rfl }
open Go.RowKit Go.Lib Go.Sort in
theorem Tryz.slices_Compact_int (blk off cap : Nat) (zs : List Int) (w : World) (hH : Holds (Value.int .i64) w blk off zs.toArray) (hsz : zs.length ≤ 9223372036854775807) (hcap : zs.length ≤ cap) :
 Calls Tryz.prog 48 #[.slice (some ⟨blk, off, none⟩) zs.length cap] w fun e w' => e = .returned (.slice (some ⟨blk, off, none⟩) (Lib.compact zs).length cap) ∧ ∃ q, w' = putRow (Value.int .i64) (Sort.ahead w q) blk off (Lib.compact zs ++ List.replicate (zs.length - (Lib.compact zs).length) 0).toArray := Any.slices_Compact_int Tryz.laysNm220 blk off cap zs w hH hsz hcap
open Go.RowKit Go.Lib in
theorem Tryz.slices_Compact_int_empty (a : Option Addr) (cap : Nat) (w : World) :
 Calls Tryz.prog 48 #[.slice a 0 cap] w fun e w' => e = .returned (.slice a 0 cap) ∧ w' = w := Any.slices_Compact_int_empty Tryz.laysNm220 a cap w
end Go.Proofs
