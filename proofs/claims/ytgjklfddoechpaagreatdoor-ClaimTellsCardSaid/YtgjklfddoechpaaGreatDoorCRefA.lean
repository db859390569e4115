/- bourneref45: Core, core, Bytes, PromiseBytes, Digest, Verify, PromiseVerify, Sign, PromiseSign. -/
import Derived.Test.YtgjklfddoechpaaGreatDoorCSign
import Derived.Test.YtgjklfddoechpaaGreatDoorSRef7
import Derived.Outline
namespace Go.Proofs.YtgjklfddoechpaaGreatDoor
open Go.RowKit
theorem intB_len {n : Int} {A : ByteArray} (h : I64 n) (hA : A = ⟨(intL n).toArray⟩) : A.size ≤ 9 := by
  have h2 := (intL_len h).2
  have h3 : A.data.toList.length = (intL n).length := by rw [hA]
  have h4 : A.data.toList.length = A.size := by simp
  omega
set_option maxRecDepth 100000 in
set_option maxHeartbeats 4000000 in
theorem rcoreC_any (c : CV) (w : World) (hO : COk c) (hp : c.prev.size ≤ 1000) :
    Calls Tryz.prog 13 #[.agg #[.int .i64 c.office, .int .i64 c.hour, .int .i64 c.inn, .int .i64 c.out, .int .i64 c.store, .string c.prev, .int .i64 c.e, .int .i64 c.s]] w fun e w' => e = .returned (.string ⟨(coreC c).toArray⟩) ∧ Below w.heap.size w w' := by
  obtain ⟨h0, h1, h2, h3, h4, -⟩ := hO
  obtain ⟨A0, hA0⟩ : ∃ A : ByteArray, A = ⟨(intL c.office).toArray⟩ := ⟨_, rfl⟩
  obtain ⟨A1, hA1⟩ : ∃ A : ByteArray, A = ⟨(intL c.hour).toArray⟩ := ⟨_, rfl⟩
  obtain ⟨A2, hA2⟩ : ∃ A : ByteArray, A = ⟨(intL c.inn).toArray⟩ := ⟨_, rfl⟩
  obtain ⟨A3, hA3⟩ : ∃ A : ByteArray, A = ⟨(intL c.out).toArray⟩ := ⟨_, rfl⟩
  obtain ⟨A4, hA4⟩ : ∃ A : ByteArray, A = ⟨(intL c.store).toArray⟩ := ⟨_, rfl⟩
  have H0 : Hid (∀ w0, Calls Tryz.prog 50 #[.int .i64 c.office] w0 fun e w' => e = .returned (.string A0) ∧ Below w0.heap.size w0 w') := Lib.hid (fun w0 => by rw [hA0]; exact rint_any _ _ h0)
  have H1 : Hid (∀ w0, Calls Tryz.prog 50 #[.int .i64 c.hour] w0 fun e w' => e = .returned (.string A1) ∧ Below w0.heap.size w0 w') := Lib.hid (fun w0 => by rw [hA1]; exact rint_any _ _ h1)
  have H2 : Hid (∀ w0, Calls Tryz.prog 50 #[.int .i64 c.inn] w0 fun e w' => e = .returned (.string A2) ∧ Below w0.heap.size w0 w') := Lib.hid (fun w0 => by rw [hA2]; exact rint_any _ _ h2)
  have H3 : Hid (∀ w0, Calls Tryz.prog 50 #[.int .i64 c.out] w0 fun e w' => e = .returned (.string A3) ∧ Below w0.heap.size w0 w') := Lib.hid (fun w0 => by rw [hA3]; exact rint_any _ _ h3)
  have H4 : Hid (∀ w0, Calls Tryz.prog 50 #[.int .i64 c.store] w0 fun e w' => e = .returned (.string A4) ∧ Below w0.heap.size w0 w') := Lib.hid (fun w0 => by rw [hA4]; exact rint_any _ _ h4)
  have s0 := intB_len h0 hA0
  have s1 := intB_len h1 hA1
  have s2 := intB_len h2 hA2
  have s3 := intB_len h3 hA3
  have s4 := intB_len h4 hA4
  obtain ⟨A5, hA5⟩ : ∃ A : ByteArray, A = ⟨(textL c.prev.data.toList).toArray⟩ := ⟨_, rfl⟩
  have HT : Hid (∀ w0, Calls Tryz.prog 51 #[.string c.prev] w0 fun e w' => e = .returned (.string A5) ∧ Below w0.heap.size w0 w') := Lib.hid (fun w0 => by rw [hA5]; exact rtext_any _ _ (by omega))
  have s5 : A5.size ≤ 2002 := by
    have l2 := textL_len c.prev.data.toList
    have l3 : c.prev.data.toList.length = c.prev.size := by simp
    have l4 : A5.data.toList.length = (textL c.prev.data.toList).length := by rw [hA5]
    have l5 : A5.data.toList.length = A5.size := by simp
    omega
  have HAB : Hid ((((((A0 ++ A1) ++ A2) ++ A3) ++ A4) ++ A5) = ⟨(coreC c).toArray⟩) := Lib.hid (by
    rw [hA0, hA1, hA2, hA3, hA4, hA5, catL, catL, catL, catL, catL]
    simp [coreC, textC])
  have z2 : ¬ 9223372036854775807 < A0.size + A1.size := by omega
  have z3 : ¬ 9223372036854775807 < A0.size + A1.size + A2.size := by omega
  have z4 : ¬ 9223372036854775807 < A0.size + A1.size + A2.size + A3.size := by omega
  have z5 : ¬ 9223372036854775807 < A0.size + A1.size + A2.size + A3.size + A4.size := by omega
  have z6 : ¬ 9223372036854775807 < A0.size + A1.size + A2.size + A3.size + A4.size + A5.size := by omega
  clear hA0 hA1 hA2 hA3 hA4 hA5 s0 s1 s2 s3 s4 s5 h0 h1 h2 h3 h4 hp
  go_enter Tryz.func13, Tryz.ntmps13
  go_upto_region 1 with fail
  have HB1 := Lib.hid ((Below.refl w.heap.size w).alloc (Nat.le_refl _) (.cells #[.int .i64 c.office, .int .i64 c.hour, .int .i64 c.inn, .int .i64 c.out, .int .i64 c.store, .string c.prev, .int .i64 c.e, .int .i64 c.s] 25))
  have Kh1 := Lib.hid (heap_alloc_new w (.cells #[.int .i64 c.office, .int .i64 c.hour, .int .i64 c.inn, .int .i64 c.out, .int .i64 c.store, .string c.prev, .int .i64 c.e, .int .i64 c.s] 25))
  generalize w.alloc (.cells #[.int .i64 c.office, .int .i64 c.hour, .int .i64 c.inn, .int .i64 c.out, .int .i64 c.store, .string c.prev, .int .i64 c.e, .int .i64 c.s] 25) = w1 at *
  have HS0 : Hid (w1.drew.heap[w.heap.size]? = some (.cells #[.int .i64 c.office, .int .i64 c.hour, .int .i64 c.inn, .int .i64 c.out, .int .i64 c.store, .string c.prev, .int .i64 c.e, .int .i64 c.s] 25) ∧ w1.drew.cell? ⟨w.heap.size, 0, none⟩ = some (.int .i64 c.office) ∧ w1.drew.cell? ⟨w.heap.size, 1, none⟩ = some (.int .i64 c.hour) ∧ w1.drew.cell? ⟨w.heap.size, 2, none⟩ = some (.int .i64 c.inn) ∧ w1.drew.cell? ⟨w.heap.size, 3, none⟩ = some (.int .i64 c.out) ∧ w1.drew.cell? ⟨w.heap.size, 4, none⟩ = some (.int .i64 c.store) ∧ w1.drew.cell? ⟨w.heap.size, 5, none⟩ = some (.string c.prev) ∧ Below w.heap.size w w1.drew) := Lib.hid ⟨Kh1.out, (cell_of_row _ _ _ _ _ _ Kh1.out).trans rfl, (cell_of_row _ _ _ _ _ _ Kh1.out).trans rfl, (cell_of_row _ _ _ _ _ _ Kh1.out).trans rfl, (cell_of_row _ _ _ _ _ _ Kh1.out).trans rfl, (cell_of_row _ _ _ _ _ _ Kh1.out).trans rfl, (cell_of_row _ _ _ _ _ _ Kh1.out).trans rfl, HB1.out.drew⟩
  clear Kh1 HB1
  refine wp_region_noPanic ?_
  refine wp_region_held_drew (S := fun w' => w'.heap[w.heap.size]? = some (.cells #[.int .i64 c.office, .int .i64 c.hour, .int .i64 c.inn, .int .i64 c.out, .int .i64 c.store, .string c.prev, .int .i64 c.e, .int .i64 c.s] 25) ∧ w'.cell? ⟨w.heap.size, 0, none⟩ = some (.int .i64 c.office) ∧ w'.cell? ⟨w.heap.size, 1, none⟩ = some (.int .i64 c.hour) ∧ w'.cell? ⟨w.heap.size, 2, none⟩ = some (.int .i64 c.inn) ∧ w'.cell? ⟨w.heap.size, 3, none⟩ = some (.int .i64 c.out) ∧ w'.cell? ⟨w.heap.size, 4, none⟩ = some (.int .i64 c.store) ∧ w'.cell? ⟨w.heap.size, 5, none⟩ = some (.string c.prev) ∧ Below w.heap.size w w') (by kernel_rfl) HS0.out (fun hHeld => ?_)
  refine' wpAnyH_take (i := 0) (v := _) (by simp only [List.getElem?_toArray, List.getElem?_cons_succ, List.getElem?_cons_zero]; exact rfl) (by kernel_rfl) (by kernel_rfl) (by kernel_rfl) (fun _ _ _ h => h) (Or.inl ⟨by rfl, ?y0x1⟩) hHeld ?r0x1
  case y0x1 => (intro w hSw; (try dsimp only at hSw); go_simp; try with_reducible rfl)
  try simp only [Act.put, List.setIfInBounds_toArray, List.set_cons_zero, List.set_cons_succ]
  refine' wpAnyH_take (i := 1) (v := _) (by simp only [List.getElem?_toArray, List.getElem?_cons_succ, List.getElem?_cons_zero]; exact rfl) (by kernel_rfl) (by kernel_rfl) (by kernel_rfl) (fun _ _ _ h => h) (Or.inl ⟨by rfl, ?y1x2⟩) hHeld ?r1x2
  case y1x2 => (intro w hSw; (try dsimp only at hSw); go_simp; try with_reducible rfl)
  try simp only [Act.put, List.setIfInBounds_toArray, List.set_cons_zero, List.set_cons_succ]
  refine' wpAnyH_take (i := 3) (v := _) (by simp only [List.getElem?_toArray, List.getElem?_cons_succ, List.getElem?_cons_zero]; exact rfl) (by kernel_rfl) (by kernel_rfl) (by kernel_rfl) (fun _ _ _ h => h) (Or.inl ⟨by rfl, ?y3x3⟩) hHeld ?r3x3
  case y3x3 => (intro w hSw; (try dsimp only at hSw); go_simp; try with_reducible rfl)
  try simp only [Act.put, List.setIfInBounds_toArray, List.set_cons_zero, List.set_cons_succ]
  refine' wpAnyH_take (i := 4) (v := _) (by simp only [List.getElem?_toArray, List.getElem?_cons_succ, List.getElem?_cons_zero]; exact rfl) (by kernel_rfl) (by kernel_rfl) (by kernel_rfl) (fun _ _ _ h => h) (Or.inl ⟨by rfl, ?y4x4⟩) hHeld ?r4x4
  case y4x4 => (intro w hSw; (try dsimp only at hSw); go_simp; try with_reducible rfl)
  try simp only [Act.put, List.setIfInBounds_toArray, List.set_cons_zero, List.set_cons_succ]
  refine' wpAnyH_take (i := 7) (v := _) (by simp only [List.getElem?_toArray, List.getElem?_cons_succ, List.getElem?_cons_zero]; exact rfl) (by kernel_rfl) (by kernel_rfl) (by kernel_rfl) (fun _ _ _ h => h) (Or.inl ⟨by rfl, ?y7x5⟩) hHeld ?r7x5
  case y7x5 => (intro w hSw; (try dsimp only at hSw); go_simp; try with_reducible rfl)
  try simp only [Act.put, List.setIfInBounds_toArray, List.set_cons_zero, List.set_cons_succ]
  refine' wpAnyH_take (i := 8) (v := _) (by simp only [List.getElem?_toArray, List.getElem?_cons_succ, List.getElem?_cons_zero]; exact rfl) (by kernel_rfl) (by kernel_rfl) (by kernel_rfl) (fun _ _ _ h => h) (Or.inl ⟨by rfl, ?y8x6⟩) hHeld ?r8x6
  case y8x6 => (intro w hSw; (try dsimp only at hSw); go_simp; try with_reducible rfl)
  try simp only [Act.put, List.setIfInBounds_toArray, List.set_cons_zero, List.set_cons_succ]
  refine wpAnyH_ready (rs := [2]) (by kernel_rfl) (by simp) ?_
  refine AllReadyH.cons (by simp only [List.getElem?_toArray, List.getElem?_cons_succ, List.getElem?_cons_zero]; exact rfl) (fun K hK => ?_) AllReadyH.nil
  go_simp
  refine (H0.out _).mono ?_
  rintro e w' ⟨rfl, hb⟩
  refine hK.out _ _ (cc_step hHeld hb) (fun hHeld => ?_)
  clear hK K hb
  try simp only [Act.put, List.setIfInBounds_toArray, List.set_cons_zero, List.set_cons_succ]
  refine wpAnyH_ready (rs := [5]) (by kernel_rfl) (by simp) ?_
  refine AllReadyH.cons (by simp only [List.getElem?_toArray, List.getElem?_cons_succ, List.getElem?_cons_zero]; exact rfl) (fun K hK => ?_) AllReadyH.nil
  go_simp
  refine (H1.out _).mono ?_
  rintro e w' ⟨rfl, hb⟩
  refine hK.out _ _ (cc_step hHeld hb) (fun hHeld => ?_)
  clear hK K hb
  try simp only [Act.put, List.setIfInBounds_toArray, List.set_cons_zero, List.set_cons_succ]
  refine' wpAnyH_take (i := 6) (v := _) (by simp only [List.getElem?_toArray, List.getElem?_cons_succ, List.getElem?_cons_zero]; exact rfl) (by kernel_rfl) (by kernel_rfl) (by kernel_rfl) (fun _ _ _ h => h) (Or.inl ⟨by rfl, ?y6x7⟩) hHeld ?r6x7
  case y6x7 => (intro w hSw; (try dsimp only at hSw); go_simp; try with_reducible rfl)
  try simp only [Act.put, List.setIfInBounds_toArray, List.set_cons_zero, List.set_cons_succ]
  refine wpAnyH_ready (rs := [9]) (by kernel_rfl) (by simp) ?_
  refine AllReadyH.cons (by simp only [List.getElem?_toArray, List.getElem?_cons_succ, List.getElem?_cons_zero]; exact rfl) (fun K hK => ?_) AllReadyH.nil
  go_simp
  refine (H2.out _).mono ?_
  rintro e w' ⟨rfl, hb⟩
  refine hK.out _ _ (cc_step hHeld hb) (fun hHeld => ?_)
  clear hK K hb
  try simp only [Act.put, List.setIfInBounds_toArray, List.set_cons_zero, List.set_cons_succ]
  refine' wpAnyH_take (i := 10) (v := _) (by simp only [List.getElem?_toArray, List.getElem?_cons_succ, List.getElem?_cons_zero]; exact rfl) (by kernel_rfl) (by kernel_rfl) (by kernel_rfl) (fun _ _ _ h => h) (Or.inl ⟨by rfl, ?y10x8⟩) hHeld ?r10x8
  case y10x8 => (intro w hSw; (try dsimp only at hSw); go_simp; try with_reducible rfl)
  try simp only [Act.put, List.setIfInBounds_toArray, List.set_cons_zero, List.set_cons_succ]
  refine' wpAnyH_take (i := 11) (v := _) (by simp only [List.getElem?_toArray, List.getElem?_cons_succ, List.getElem?_cons_zero]; exact rfl) (by kernel_rfl) (by kernel_rfl) (by kernel_rfl) (fun _ _ _ h => h) (Or.inl ⟨by rfl, ?y11x9⟩) hHeld ?r11x9
  case y11x9 => (intro w hSw; (try dsimp only at hSw); go_simp; try with_reducible rfl)
  try simp only [Act.put, List.setIfInBounds_toArray, List.set_cons_zero, List.set_cons_succ]
  refine wpAnyH_done (by kernel_rfl) ?_ _
  refine NoPanic.normal ?_
  have HS1 := Lib.hid (cc_stepN hHeld 1)
  clear HS0 hHeld
  go_upto_region 2 with fail
  refine wp_region_noPanic ?_
  refine wp_region_held_drew (S := fun w' => w'.heap[w.heap.size]? = some (.cells #[.int .i64 c.office, .int .i64 c.hour, .int .i64 c.inn, .int .i64 c.out, .int .i64 c.store, .string c.prev, .int .i64 c.e, .int .i64 c.s] 25) ∧ w'.cell? ⟨w.heap.size, 0, none⟩ = some (.int .i64 c.office) ∧ w'.cell? ⟨w.heap.size, 1, none⟩ = some (.int .i64 c.hour) ∧ w'.cell? ⟨w.heap.size, 2, none⟩ = some (.int .i64 c.inn) ∧ w'.cell? ⟨w.heap.size, 3, none⟩ = some (.int .i64 c.out) ∧ w'.cell? ⟨w.heap.size, 4, none⟩ = some (.int .i64 c.store) ∧ w'.cell? ⟨w.heap.size, 5, none⟩ = some (.string c.prev) ∧ Below w.heap.size w w') (by kernel_rfl) HS1.out (fun hHeld => ?_)
  refine' wpAnyH_take (i := 0) (v := _) (by simp only [List.getElem?_toArray, List.getElem?_cons_succ, List.getElem?_cons_zero]; exact rfl) (by kernel_rfl) (by kernel_rfl) (by kernel_rfl) (fun _ _ _ h => h) (Or.inl ⟨by rfl, ?y0x10⟩) hHeld ?r0x10
  case y0x10 => (intro w hSw; (try dsimp only at hSw); go_simp; try with_reducible rfl)
  try simp only [Act.put, List.setIfInBounds_toArray, List.set_cons_zero, List.set_cons_succ]
  refine' wpAnyH_take (i := 1) (v := _) (by simp only [List.getElem?_toArray, List.getElem?_cons_succ, List.getElem?_cons_zero]; exact rfl) (by kernel_rfl) (by kernel_rfl) (by kernel_rfl) (fun _ _ _ h => h) (Or.inl ⟨by rfl, ?y1x11⟩) hHeld ?r1x11
  case y1x11 => (intro w hSw; (try dsimp only at hSw); go_simp; try with_reducible rfl)
  try simp only [Act.put, List.setIfInBounds_toArray, List.set_cons_zero, List.set_cons_succ]
  refine' wpAnyH_take (i := 2) (v := _) (by simp only [List.getElem?_toArray, List.getElem?_cons_succ, List.getElem?_cons_zero]; exact rfl) (by kernel_rfl) (by kernel_rfl) (by kernel_rfl) (fun _ _ _ h => h) (Or.inl ⟨by rfl, ?y2x12⟩) hHeld ?r2x12
  case y2x12 => (intro w hSw; (try dsimp only at hSw); go_simp; try with_reducible rfl)
  try simp only [Act.put, List.setIfInBounds_toArray, List.set_cons_zero, List.set_cons_succ]
  refine' wpAnyH_take (i := 5) (v := _) (by simp only [List.getElem?_toArray, List.getElem?_cons_succ, List.getElem?_cons_zero]; exact rfl) (by kernel_rfl) (by kernel_rfl) (by kernel_rfl) (fun _ _ _ h => h) (Or.inl ⟨by rfl, ?y5x13⟩) hHeld ?r5x13
  case y5x13 => (intro w hSw; (try dsimp only at hSw); go_simp; try with_reducible rfl)
  try simp only [Act.put, List.setIfInBounds_toArray, List.set_cons_zero, List.set_cons_succ]
  refine' wpAnyH_take (i := 6) (v := _) (by simp only [List.getElem?_toArray, List.getElem?_cons_succ, List.getElem?_cons_zero]; exact rfl) (by kernel_rfl) (by kernel_rfl) (by kernel_rfl) (fun _ _ _ h => h) (Or.inl ⟨by rfl, ?y6x14⟩) hHeld ?r6x14
  case y6x14 => (intro w hSw; (try dsimp only at hSw); go_simp; try with_reducible rfl)
  try simp only [Act.put, List.setIfInBounds_toArray, List.set_cons_zero, List.set_cons_succ]
  refine' wpAnyH_take (i := 9) (v := _) (by simp only [List.getElem?_toArray, List.getElem?_cons_succ, List.getElem?_cons_zero]; exact rfl) (by kernel_rfl) (by kernel_rfl) (by kernel_rfl) (fun _ _ _ h => h) (Or.inl ⟨by rfl, ?y9x15⟩) hHeld ?r9x15
  case y9x15 => (intro w hSw; (try dsimp only at hSw); go_simp; try with_reducible rfl)
  try simp only [Act.put, List.setIfInBounds_toArray, List.set_cons_zero, List.set_cons_succ]
  refine' wpAnyH_take (i := 10) (v := _) (by simp only [List.getElem?_toArray, List.getElem?_cons_succ, List.getElem?_cons_zero]; exact rfl) (by kernel_rfl) (by kernel_rfl) (by kernel_rfl) (fun _ _ _ h => h) (Or.inl ⟨by rfl, ?y10x16⟩) hHeld ?r10x16
  case y10x16 => (intro w hSw; (try dsimp only at hSw); go_simp; try with_reducible rfl)
  try simp only [Act.put, List.setIfInBounds_toArray, List.set_cons_zero, List.set_cons_succ]
  refine wpAnyH_ready (rs := [3]) (by kernel_rfl) (by simp) ?_
  refine AllReadyH.cons (by simp only [List.getElem?_toArray, List.getElem?_cons_succ, List.getElem?_cons_zero]; exact rfl) (fun K hK => ?_) AllReadyH.nil
  go_simp
  refine (H3.out _).mono ?_
  rintro e w' ⟨rfl, hb⟩
  refine hK.out _ _ (cc_step hHeld hb) (fun hHeld => ?_)
  clear hK K hb
  try simp only [Act.put, List.setIfInBounds_toArray, List.set_cons_zero, List.set_cons_succ]
  refine' wpAnyH_take (i := 4) (v := _) (by simp only [List.getElem?_toArray, List.getElem?_cons_succ, List.getElem?_cons_zero]; exact rfl) (by kernel_rfl) (by kernel_rfl) (by kernel_rfl) (fun _ _ _ h => h) (Or.inl ⟨by rfl, ?y4x17⟩) hHeld ?r4x17
  case y4x17 => (intro w hSw; (try dsimp only at hSw); go_simp; try with_reducible rfl)
  try simp only [Act.put, List.setIfInBounds_toArray, List.set_cons_zero, List.set_cons_succ]
  refine wpAnyH_ready (rs := [7]) (by kernel_rfl) (by simp) ?_
  refine AllReadyH.cons (by simp only [List.getElem?_toArray, List.getElem?_cons_succ, List.getElem?_cons_zero]; exact rfl) (fun K hK => ?_) AllReadyH.nil
  go_simp
  refine (H4.out _).mono ?_
  rintro e w' ⟨rfl, hb⟩
  refine hK.out _ _ (cc_step hHeld hb) (fun hHeld => ?_)
  clear hK K hb
  try simp only [Act.put, List.setIfInBounds_toArray, List.set_cons_zero, List.set_cons_succ]
  refine' wpAnyH_take (i := 8) (v := _) (by simp only [List.getElem?_toArray, List.getElem?_cons_succ, List.getElem?_cons_zero]; exact rfl) (by kernel_rfl) (by kernel_rfl) (by kernel_rfl) (fun _ _ _ h => h) (Or.inl ⟨by rfl, ?y8x18⟩) hHeld ?r8x18
  case y8x18 => (intro w hSw; (try dsimp only at hSw); go_simp; try with_reducible rfl)
  try simp only [Act.put, List.setIfInBounds_toArray, List.set_cons_zero, List.set_cons_succ]
  refine wpAnyH_ready (rs := [11]) (by kernel_rfl) (by simp) ?_
  refine AllReadyH.cons (by simp only [List.getElem?_toArray, List.getElem?_cons_succ, List.getElem?_cons_zero]; exact rfl) (fun K hK => ?_) AllReadyH.nil
  go_simp
  refine (HT.out _).mono ?_
  rintro e w' ⟨rfl, hb⟩
  refine hK.out _ _ (cc_step hHeld hb) (fun hHeld => ?_)
  clear hK K hb
  try simp only [Act.put, List.setIfInBounds_toArray, List.set_cons_zero, List.set_cons_succ]
  refine' wpAnyH_take (i := 12) (v := _) (by simp only [List.getElem?_toArray, List.getElem?_cons_succ, List.getElem?_cons_zero]; exact rfl) (by kernel_rfl) (by kernel_rfl) (by kernel_rfl) (fun _ _ _ h => h) (Or.inl ⟨by rfl, ?y12x19⟩) hHeld ?r12x19
  case y12x19 => (intro w hSw; (try dsimp only at hSw); go_simp; try with_reducible rfl)
  try simp only [Act.put, List.setIfInBounds_toArray, List.set_cons_zero, List.set_cons_succ]
  refine' wpAnyH_take (i := 13) (v := _) (by simp only [List.getElem?_toArray, List.getElem?_cons_succ, List.getElem?_cons_zero]; exact rfl) (by kernel_rfl) (by kernel_rfl) (by kernel_rfl) (fun _ _ _ h => h) (Or.inl ⟨by rfl, ?y13x20⟩) hHeld ?r13x20
  case y13x20 => (intro w hSw; (try dsimp only at hSw); go_simp; try with_reducible rfl)
  try simp only [Act.put, List.setIfInBounds_toArray, List.set_cons_zero, List.set_cons_succ]
  refine wpAnyH_done (by kernel_rfl) ?_ _
  refine NoPanic.normal ?_
  have HBf := Lib.hid hHeld.2.2.2.2.2.2.2
  go_wp2_with fail
  go_ret
  exact ⟨by rw [← HAB.out]; rfl, HBf.out⟩
set_option maxRecDepth 100000 in
set_option maxHeartbeats 4000000 in
theorem rbytesC_any (c : CV) (w : World) (hO : COk c) (hp : c.prev.size ≤ 1000) :
    Calls Tryz.prog 15 #[.agg #[.int .i64 c.office, .int .i64 c.hour, .int .i64 c.inn, .int .i64 c.out, .int .i64 c.store, .string c.prev, .int .i64 c.e, .int .i64 c.s]] w fun e w' => e = .returned (.string ⟨(bytesC c).toArray⟩) ∧ Below w.heap.size w w' := by
  obtain ⟨A, hA⟩ : ∃ A : ByteArray, A = ⟨(coreC c).toArray⟩ := ⟨_, rfl⟩
  have HCo : Hid (∀ w0, Calls Tryz.prog 13 #[.agg #[.int .i64 c.office, .int .i64 c.hour, .int .i64 c.inn, .int .i64 c.out, .int .i64 c.store, .string c.prev, .int .i64 c.e, .int .i64 c.s]] w0 fun e w' => e = .returned (.string A) ∧ Below w0.heap.size w0 w') := Lib.hid (fun w0 => by
    rw [hA]
    exact rcoreC_any c w0 hO hp)
  have s : A.size ≤ 2047 := by
    have h := coreC_len hO hp
    have h2 : A.data.toList.length ≤ 2047 := by rw [hA]; exact h
    exact h2
  obtain ⟨-, -, -, -, -, h0, h1⟩ := hO
  obtain ⟨A0, hA0⟩ : ∃ A : ByteArray, A = ⟨(intL c.e).toArray⟩ := ⟨_, rfl⟩
  obtain ⟨A1, hA1⟩ : ∃ A : ByteArray, A = ⟨(intL c.s).toArray⟩ := ⟨_, rfl⟩
  have H0 : Hid (∀ w0, Calls Tryz.prog 50 #[.int .i64 c.e] w0 fun e w' => e = .returned (.string A0) ∧ Below w0.heap.size w0 w') := Lib.hid (fun w0 => by rw [hA0]; exact rint_any _ _ h0)
  have H1 : Hid (∀ w0, Calls Tryz.prog 50 #[.int .i64 c.s] w0 fun e w' => e = .returned (.string A1) ∧ Below w0.heap.size w0 w') := Lib.hid (fun w0 => by rw [hA1]; exact rint_any _ _ h1)
  have s0 := intB_len h0 hA0
  have s1 := intB_len h1 hA1
  have HAB : Hid ((A ++ A0) ++ A1 = ⟨(bytesC c).toArray⟩) := Lib.hid (by
    rw [hA, hA0, hA1, catL, catL]
    simp [bytesC])
  have z0 : ¬ 9223372036854775807 < A.size + A0.size := by omega
  have z1 : ¬ 9223372036854775807 < A.size + A0.size + A1.size := by omega
  clear hA hA0 hA1 s s0 s1 h0 h1 hp
  go_enter Tryz.func15, Tryz.ntmps15
  go_upto_region 1 with fail
  have HB1 := Lib.hid ((Below.refl w.heap.size w).alloc (Nat.le_refl _) (.cells #[.int .i64 c.office, .int .i64 c.hour, .int .i64 c.inn, .int .i64 c.out, .int .i64 c.store, .string c.prev, .int .i64 c.e, .int .i64 c.s] 25))
  have Kh1 := Lib.hid (heap_alloc_new w (.cells #[.int .i64 c.office, .int .i64 c.hour, .int .i64 c.inn, .int .i64 c.out, .int .i64 c.store, .string c.prev, .int .i64 c.e, .int .i64 c.s] 25))
  generalize w.alloc (.cells #[.int .i64 c.office, .int .i64 c.hour, .int .i64 c.inn, .int .i64 c.out, .int .i64 c.store, .string c.prev, .int .i64 c.e, .int .i64 c.s] 25) = w1 at *
  have HS0 : Hid (w1.drew.heap[w.heap.size]? = some (.cells #[.int .i64 c.office, .int .i64 c.hour, .int .i64 c.inn, .int .i64 c.out, .int .i64 c.store, .string c.prev, .int .i64 c.e, .int .i64 c.s] 25) ∧ w1.drew.cell? ⟨w.heap.size, 0, none⟩ = some (.int .i64 c.office) ∧ w1.drew.cell? ⟨w.heap.size, 1, none⟩ = some (.int .i64 c.hour) ∧ w1.drew.cell? ⟨w.heap.size, 2, none⟩ = some (.int .i64 c.inn) ∧ w1.drew.cell? ⟨w.heap.size, 3, none⟩ = some (.int .i64 c.out) ∧ w1.drew.cell? ⟨w.heap.size, 4, none⟩ = some (.int .i64 c.store) ∧ w1.drew.cell? ⟨w.heap.size, 5, none⟩ = some (.string c.prev) ∧ w1.drew.cell? ⟨w.heap.size, 6, none⟩ = some (.int .i64 c.e) ∧ w1.drew.cell? ⟨w.heap.size, 7, none⟩ = some (.int .i64 c.s) ∧ Below w.heap.size w w1.drew) := Lib.hid ⟨Kh1.out, (cell_of_row _ _ _ _ _ _ Kh1.out).trans rfl, (cell_of_row _ _ _ _ _ _ Kh1.out).trans rfl, (cell_of_row _ _ _ _ _ _ Kh1.out).trans rfl, (cell_of_row _ _ _ _ _ _ Kh1.out).trans rfl, (cell_of_row _ _ _ _ _ _ Kh1.out).trans rfl, (cell_of_row _ _ _ _ _ _ Kh1.out).trans rfl, (cell_of_row _ _ _ _ _ _ Kh1.out).trans rfl, (cell_of_row _ _ _ _ _ _ Kh1.out).trans rfl, HB1.out.drew⟩
  clear Kh1 HB1
  refine wp_region_noPanic ?_
  refine wp_region_held_drew (S := fun w' => w'.heap[w.heap.size]? = some (.cells #[.int .i64 c.office, .int .i64 c.hour, .int .i64 c.inn, .int .i64 c.out, .int .i64 c.store, .string c.prev, .int .i64 c.e, .int .i64 c.s] 25) ∧ w'.cell? ⟨w.heap.size, 0, none⟩ = some (.int .i64 c.office) ∧ w'.cell? ⟨w.heap.size, 1, none⟩ = some (.int .i64 c.hour) ∧ w'.cell? ⟨w.heap.size, 2, none⟩ = some (.int .i64 c.inn) ∧ w'.cell? ⟨w.heap.size, 3, none⟩ = some (.int .i64 c.out) ∧ w'.cell? ⟨w.heap.size, 4, none⟩ = some (.int .i64 c.store) ∧ w'.cell? ⟨w.heap.size, 5, none⟩ = some (.string c.prev) ∧ w'.cell? ⟨w.heap.size, 6, none⟩ = some (.int .i64 c.e) ∧ w'.cell? ⟨w.heap.size, 7, none⟩ = some (.int .i64 c.s) ∧ Below w.heap.size w w') (by kernel_rfl) HS0.out (fun hHeld => ?_)
  refine' wpAnyH_take (i := 0) (v := _) (by simp only [List.getElem?_toArray, List.getElem?_cons_succ, List.getElem?_cons_zero]; exact rfl) (by kernel_rfl) (by kernel_rfl) (by kernel_rfl) (fun _ _ _ h => h) (Or.inl ⟨by rfl, ?y0x21⟩) hHeld ?r0x21
  case y0x21 => (intro w hSw; (try dsimp only at hSw); go_simp; try with_reducible rfl)
  try simp only [Act.put, List.setIfInBounds_toArray, List.set_cons_zero, List.set_cons_succ]
  refine' wpAnyH_take (i := 2) (v := _) (by simp only [List.getElem?_toArray, List.getElem?_cons_succ, List.getElem?_cons_zero]; exact rfl) (by kernel_rfl) (by kernel_rfl) (by kernel_rfl) (fun _ _ _ h => h) (Or.inl ⟨by rfl, ?y2x22⟩) hHeld ?r2x22
  case y2x22 => (intro w hSw; (try dsimp only at hSw); go_simp; try with_reducible rfl)
  try simp only [Act.put, List.setIfInBounds_toArray, List.set_cons_zero, List.set_cons_succ]
  refine' wpAnyH_take (i := 3) (v := _) (by simp only [List.getElem?_toArray, List.getElem?_cons_succ, List.getElem?_cons_zero]; exact rfl) (by kernel_rfl) (by kernel_rfl) (by kernel_rfl) (fun _ _ _ h => h) (Or.inl ⟨by rfl, ?y3x23⟩) hHeld ?r3x23
  case y3x23 => (intro w hSw; (try dsimp only at hSw); go_simp; try with_reducible rfl)
  try simp only [Act.put, List.setIfInBounds_toArray, List.set_cons_zero, List.set_cons_succ]
  refine' wpAnyH_take (i := 4) (v := _) (by simp only [List.getElem?_toArray, List.getElem?_cons_succ, List.getElem?_cons_zero]; exact rfl) (by kernel_rfl) (by kernel_rfl) (by kernel_rfl) (fun _ _ _ h => h) (Or.inl ⟨by rfl, ?y4x24⟩) hHeld ?r4x24
  case y4x24 => (intro w hSw; (try dsimp only at hSw); go_simp; try with_reducible rfl)
  try simp only [Act.put, List.setIfInBounds_toArray, List.set_cons_zero, List.set_cons_succ]
  refine' wpAnyH_take (i := 7) (v := _) (by simp only [List.getElem?_toArray, List.getElem?_cons_succ, List.getElem?_cons_zero]; exact rfl) (by kernel_rfl) (by kernel_rfl) (by kernel_rfl) (fun _ _ _ h => h) (Or.inl ⟨by rfl, ?y7x25⟩) hHeld ?r7x25
  case y7x25 => (intro w hSw; (try dsimp only at hSw); go_simp; try with_reducible rfl)
  try simp only [Act.put, List.setIfInBounds_toArray, List.set_cons_zero, List.set_cons_succ]
  refine' wpAnyH_take (i := 8) (v := _) (by simp only [List.getElem?_toArray, List.getElem?_cons_succ, List.getElem?_cons_zero]; exact rfl) (by kernel_rfl) (by kernel_rfl) (by kernel_rfl) (fun _ _ _ h => h) (Or.inl ⟨by rfl, ?y8x26⟩) hHeld ?r8x26
  case y8x26 => (intro w hSw; (try dsimp only at hSw); go_simp; try with_reducible rfl)
  try simp only [Act.put, List.setIfInBounds_toArray, List.set_cons_zero, List.set_cons_succ]
  refine' wpAnyH_take (i := 9) (v := _) (by simp only [List.getElem?_toArray, List.getElem?_cons_succ, List.getElem?_cons_zero]; exact rfl) (by kernel_rfl) (by kernel_rfl) (by kernel_rfl) (fun _ _ _ h => h) (Or.inl ⟨by rfl, ?y9x27⟩) hHeld ?r9x27
  case y9x27 => (intro w hSw; (try dsimp only at hSw); go_simp; try with_reducible rfl)
  try simp only [Act.put, List.setIfInBounds_toArray, List.set_cons_zero, List.set_cons_succ]
  refine wpAnyH_ready (rs := [1]) (by kernel_rfl) (by simp) ?_
  refine AllReadyH.cons (by simp only [List.getElem?_toArray, List.getElem?_cons_succ, List.getElem?_cons_zero]; exact rfl) (fun K hK => ?_) AllReadyH.nil
  go_simp
  refine (HCo.out _).mono ?_
  rintro e w' ⟨rfl, hb⟩
  refine hK.out _ _ (bc_step hHeld hb) (fun hHeld => ?_)
  clear hK K hb
  try simp only [Act.put, List.setIfInBounds_toArray, List.set_cons_zero, List.set_cons_succ]
  refine wpAnyH_ready (rs := [5]) (by kernel_rfl) (by simp) ?_
  refine AllReadyH.cons (by simp only [List.getElem?_toArray, List.getElem?_cons_succ, List.getElem?_cons_zero]; exact rfl) (fun K hK => ?_) AllReadyH.nil
  go_simp
  refine (H0.out _).mono ?_
  rintro e w' ⟨rfl, hb⟩
  refine hK.out _ _ (bc_step hHeld hb) (fun hHeld => ?_)
  clear hK K hb
  try simp only [Act.put, List.setIfInBounds_toArray, List.set_cons_zero, List.set_cons_succ]
  refine' wpAnyH_take (i := 6) (v := _) (by simp only [List.getElem?_toArray, List.getElem?_cons_succ, List.getElem?_cons_zero]; exact rfl) (by kernel_rfl) (by kernel_rfl) (by kernel_rfl) (fun _ _ _ h => h) (Or.inl ⟨by rfl, ?y6x28⟩) hHeld ?r6x28
  case y6x28 => (intro w hSw; (try dsimp only at hSw); go_simp; try with_reducible rfl)
  try simp only [Act.put, List.setIfInBounds_toArray, List.set_cons_zero, List.set_cons_succ]
  refine wpAnyH_ready (rs := [10]) (by kernel_rfl) (by simp) ?_
  refine AllReadyH.cons (by simp only [List.getElem?_toArray, List.getElem?_cons_succ, List.getElem?_cons_zero]; exact rfl) (fun K hK => ?_) AllReadyH.nil
  go_simp
  refine (H1.out _).mono ?_
  rintro e w' ⟨rfl, hb⟩
  refine hK.out _ _ (bc_step hHeld hb) (fun hHeld => ?_)
  clear hK K hb
  try simp only [Act.put, List.setIfInBounds_toArray, List.set_cons_zero, List.set_cons_succ]
  refine' wpAnyH_take (i := 11) (v := _) (by simp only [List.getElem?_toArray, List.getElem?_cons_succ, List.getElem?_cons_zero]; exact rfl) (by kernel_rfl) (by kernel_rfl) (by kernel_rfl) (fun _ _ _ h => h) (Or.inl ⟨by rfl, ?y11x29⟩) hHeld ?r11x29
  case y11x29 => (intro w hSw; (try dsimp only at hSw); go_simp; try with_reducible rfl)
  try simp only [Act.put, List.setIfInBounds_toArray, List.set_cons_zero, List.set_cons_succ]
  refine' wpAnyH_take (i := 12) (v := _) (by simp only [List.getElem?_toArray, List.getElem?_cons_succ, List.getElem?_cons_zero]; exact rfl) (by kernel_rfl) (by kernel_rfl) (by kernel_rfl) (fun _ _ _ h => h) (Or.inl ⟨by rfl, ?y12x30⟩) hHeld ?r12x30
  case y12x30 => (intro w hSw; (try dsimp only at hSw); go_simp; try with_reducible rfl)
  try simp only [Act.put, List.setIfInBounds_toArray, List.set_cons_zero, List.set_cons_succ]
  refine wpAnyH_done (by kernel_rfl) ?_ _
  refine NoPanic.normal ?_
  have HBf := Lib.hid hHeld.2.2.2.2.2.2.2.2.2
  go_wp2_with fail
  go_ret
  exact ⟨by rw [← HAB.out]; rfl, HBf.out⟩
set_option maxRecDepth 100000 in
set_option maxHeartbeats 4000000 in
theorem rcoreP_any (c : PV) (w : World) (hO : POk c) :
    Calls Tryz.prog 55 #[.agg #[.int .i64 c.office, .int .i64 c.since, .int .i64 c.till, .int .i64 c.litres, .int .i64 c.e, .int .i64 c.s]] w fun e w' => e = .returned (.string ⟨(coreP c).toArray⟩) ∧ Below w.heap.size w w' := by
  obtain ⟨h0, h1, h2, h3, -⟩ := hO
  obtain ⟨A0, hA0⟩ : ∃ A : ByteArray, A = ⟨(intL c.office).toArray⟩ := ⟨_, rfl⟩
  obtain ⟨A1, hA1⟩ : ∃ A : ByteArray, A = ⟨(intL c.since).toArray⟩ := ⟨_, rfl⟩
  obtain ⟨A2, hA2⟩ : ∃ A : ByteArray, A = ⟨(intL c.till).toArray⟩ := ⟨_, rfl⟩
  obtain ⟨A3, hA3⟩ : ∃ A : ByteArray, A = ⟨(intL c.litres).toArray⟩ := ⟨_, rfl⟩
  have H0 : Hid (∀ w0, Calls Tryz.prog 50 #[.int .i64 c.office] w0 fun e w' => e = .returned (.string A0) ∧ Below w0.heap.size w0 w') := Lib.hid (fun w0 => by rw [hA0]; exact rint_any _ _ h0)
  have H1 : Hid (∀ w0, Calls Tryz.prog 50 #[.int .i64 c.since] w0 fun e w' => e = .returned (.string A1) ∧ Below w0.heap.size w0 w') := Lib.hid (fun w0 => by rw [hA1]; exact rint_any _ _ h1)
  have H2 : Hid (∀ w0, Calls Tryz.prog 50 #[.int .i64 c.till] w0 fun e w' => e = .returned (.string A2) ∧ Below w0.heap.size w0 w') := Lib.hid (fun w0 => by rw [hA2]; exact rint_any _ _ h2)
  have H3 : Hid (∀ w0, Calls Tryz.prog 50 #[.int .i64 c.litres] w0 fun e w' => e = .returned (.string A3) ∧ Below w0.heap.size w0 w') := Lib.hid (fun w0 => by rw [hA3]; exact rint_any _ _ h3)
  have s0 := intB_len h0 hA0
  have s1 := intB_len h1 hA1
  have s2 := intB_len h2 hA2
  have s3 := intB_len h3 hA3
  have HAB : Hid ((((A0 ++ A1) ++ A2) ++ A3) = ⟨(coreP c).toArray⟩) := Lib.hid (by
    rw [hA0, hA1, hA2, hA3, catL, catL, catL]
    simp [coreP])
  have z2 : ¬ 9223372036854775807 < A0.size + A1.size := by omega
  have z3 : ¬ 9223372036854775807 < A0.size + A1.size + A2.size := by omega
  have z4 : ¬ 9223372036854775807 < A0.size + A1.size + A2.size + A3.size := by omega
  clear hA0 hA1 hA2 hA3 s0 s1 s2 s3 h0 h1 h2 h3
  go_enter Tryz.func55, Tryz.ntmps55
  go_upto_region 1 with fail
  have HB1 := Lib.hid ((Below.refl w.heap.size w).alloc (Nat.le_refl _) (.cells #[.int .i64 c.office, .int .i64 c.since, .int .i64 c.till, .int .i64 c.litres, .int .i64 c.e, .int .i64 c.s] 27))
  have Kh1 := Lib.hid (heap_alloc_new w (.cells #[.int .i64 c.office, .int .i64 c.since, .int .i64 c.till, .int .i64 c.litres, .int .i64 c.e, .int .i64 c.s] 27))
  generalize w.alloc (.cells #[.int .i64 c.office, .int .i64 c.since, .int .i64 c.till, .int .i64 c.litres, .int .i64 c.e, .int .i64 c.s] 27) = w1 at *
  have HS0 : Hid (w1.drew.heap[w.heap.size]? = some (.cells #[.int .i64 c.office, .int .i64 c.since, .int .i64 c.till, .int .i64 c.litres, .int .i64 c.e, .int .i64 c.s] 27) ∧ w1.drew.cell? ⟨w.heap.size, 0, none⟩ = some (.int .i64 c.office) ∧ w1.drew.cell? ⟨w.heap.size, 1, none⟩ = some (.int .i64 c.since) ∧ w1.drew.cell? ⟨w.heap.size, 2, none⟩ = some (.int .i64 c.till) ∧ w1.drew.cell? ⟨w.heap.size, 3, none⟩ = some (.int .i64 c.litres) ∧ w1.drew.cell? ⟨w.heap.size, 4, none⟩ = some (.int .i64 c.e) ∧ w1.drew.cell? ⟨w.heap.size, 5, none⟩ = some (.int .i64 c.s) ∧ Below w.heap.size w w1.drew) := Lib.hid ⟨Kh1.out, (cell_of_row _ _ _ _ _ _ Kh1.out).trans rfl, (cell_of_row _ _ _ _ _ _ Kh1.out).trans rfl, (cell_of_row _ _ _ _ _ _ Kh1.out).trans rfl, (cell_of_row _ _ _ _ _ _ Kh1.out).trans rfl, (cell_of_row _ _ _ _ _ _ Kh1.out).trans rfl, (cell_of_row _ _ _ _ _ _ Kh1.out).trans rfl, HB1.out.drew⟩
  clear Kh1 HB1
  refine wp_region_noPanic ?_
  refine wp_region_held_drew (S := fun w' => w'.heap[w.heap.size]? = some (.cells #[.int .i64 c.office, .int .i64 c.since, .int .i64 c.till, .int .i64 c.litres, .int .i64 c.e, .int .i64 c.s] 27) ∧ w'.cell? ⟨w.heap.size, 0, none⟩ = some (.int .i64 c.office) ∧ w'.cell? ⟨w.heap.size, 1, none⟩ = some (.int .i64 c.since) ∧ w'.cell? ⟨w.heap.size, 2, none⟩ = some (.int .i64 c.till) ∧ w'.cell? ⟨w.heap.size, 3, none⟩ = some (.int .i64 c.litres) ∧ w'.cell? ⟨w.heap.size, 4, none⟩ = some (.int .i64 c.e) ∧ w'.cell? ⟨w.heap.size, 5, none⟩ = some (.int .i64 c.s) ∧ Below w.heap.size w w') (by kernel_rfl) HS0.out (fun hHeld => ?_)
  refine' wpAnyH_take (i := 0) (v := _) (by simp only [List.getElem?_toArray, List.getElem?_cons_succ, List.getElem?_cons_zero]; exact rfl) (by kernel_rfl) (by kernel_rfl) (by kernel_rfl) (fun _ _ _ h => h) (Or.inl ⟨by rfl, ?y0x31⟩) hHeld ?r0x31
  case y0x31 => (intro w hSw; (try dsimp only at hSw); go_simp; try with_reducible rfl)
  try simp only [Act.put, List.setIfInBounds_toArray, List.set_cons_zero, List.set_cons_succ]
  refine' wpAnyH_take (i := 1) (v := _) (by simp only [List.getElem?_toArray, List.getElem?_cons_succ, List.getElem?_cons_zero]; exact rfl) (by kernel_rfl) (by kernel_rfl) (by kernel_rfl) (fun _ _ _ h => h) (Or.inl ⟨by rfl, ?y1x32⟩) hHeld ?r1x32
  case y1x32 => (intro w hSw; (try dsimp only at hSw); go_simp; try with_reducible rfl)
  try simp only [Act.put, List.setIfInBounds_toArray, List.set_cons_zero, List.set_cons_succ]
  refine' wpAnyH_take (i := 3) (v := _) (by simp only [List.getElem?_toArray, List.getElem?_cons_succ, List.getElem?_cons_zero]; exact rfl) (by kernel_rfl) (by kernel_rfl) (by kernel_rfl) (fun _ _ _ h => h) (Or.inl ⟨by rfl, ?y3x33⟩) hHeld ?r3x33
  case y3x33 => (intro w hSw; (try dsimp only at hSw); go_simp; try with_reducible rfl)
  try simp only [Act.put, List.setIfInBounds_toArray, List.set_cons_zero, List.set_cons_succ]
  refine' wpAnyH_take (i := 4) (v := _) (by simp only [List.getElem?_toArray, List.getElem?_cons_succ, List.getElem?_cons_zero]; exact rfl) (by kernel_rfl) (by kernel_rfl) (by kernel_rfl) (fun _ _ _ h => h) (Or.inl ⟨by rfl, ?y4x34⟩) hHeld ?r4x34
  case y4x34 => (intro w hSw; (try dsimp only at hSw); go_simp; try with_reducible rfl)
  try simp only [Act.put, List.setIfInBounds_toArray, List.set_cons_zero, List.set_cons_succ]
  refine' wpAnyH_take (i := 7) (v := _) (by simp only [List.getElem?_toArray, List.getElem?_cons_succ, List.getElem?_cons_zero]; exact rfl) (by kernel_rfl) (by kernel_rfl) (by kernel_rfl) (fun _ _ _ h => h) (Or.inl ⟨by rfl, ?y7x35⟩) hHeld ?r7x35
  case y7x35 => (intro w hSw; (try dsimp only at hSw); go_simp; try with_reducible rfl)
  try simp only [Act.put, List.setIfInBounds_toArray, List.set_cons_zero, List.set_cons_succ]
  refine' wpAnyH_take (i := 8) (v := _) (by simp only [List.getElem?_toArray, List.getElem?_cons_succ, List.getElem?_cons_zero]; exact rfl) (by kernel_rfl) (by kernel_rfl) (by kernel_rfl) (fun _ _ _ h => h) (Or.inl ⟨by rfl, ?y8x36⟩) hHeld ?r8x36
  case y8x36 => (intro w hSw; (try dsimp only at hSw); go_simp; try with_reducible rfl)
  try simp only [Act.put, List.setIfInBounds_toArray, List.set_cons_zero, List.set_cons_succ]
  refine' wpAnyH_take (i := 11) (v := _) (by simp only [List.getElem?_toArray, List.getElem?_cons_succ, List.getElem?_cons_zero]; exact rfl) (by kernel_rfl) (by kernel_rfl) (by kernel_rfl) (fun _ _ _ h => h) (Or.inl ⟨by rfl, ?y11x37⟩) hHeld ?r11x37
  case y11x37 => (intro w hSw; (try dsimp only at hSw); go_simp; try with_reducible rfl)
  try simp only [Act.put, List.setIfInBounds_toArray, List.set_cons_zero, List.set_cons_succ]
  refine' wpAnyH_take (i := 12) (v := _) (by simp only [List.getElem?_toArray, List.getElem?_cons_succ, List.getElem?_cons_zero]; exact rfl) (by kernel_rfl) (by kernel_rfl) (by kernel_rfl) (fun _ _ _ h => h) (Or.inl ⟨by rfl, ?y12x38⟩) hHeld ?r12x38
  case y12x38 => (intro w hSw; (try dsimp only at hSw); go_simp; try with_reducible rfl)
  try simp only [Act.put, List.setIfInBounds_toArray, List.set_cons_zero, List.set_cons_succ]
  refine wpAnyH_ready (rs := [2]) (by kernel_rfl) (by simp) ?_
  refine AllReadyH.cons (by simp only [List.getElem?_toArray, List.getElem?_cons_succ, List.getElem?_cons_zero]; exact rfl) (fun K hK => ?_) AllReadyH.nil
  go_simp
  refine (H0.out _).mono ?_
  rintro e w' ⟨rfl, hb⟩
  refine hK.out _ _ (bp_step hHeld hb) (fun hHeld => ?_)
  clear hK K hb
  try simp only [Act.put, List.setIfInBounds_toArray, List.set_cons_zero, List.set_cons_succ]
  refine wpAnyH_ready (rs := [5]) (by kernel_rfl) (by simp) ?_
  refine AllReadyH.cons (by simp only [List.getElem?_toArray, List.getElem?_cons_succ, List.getElem?_cons_zero]; exact rfl) (fun K hK => ?_) AllReadyH.nil
  go_simp
  refine (H1.out _).mono ?_
  rintro e w' ⟨rfl, hb⟩
  refine hK.out _ _ (bp_step hHeld hb) (fun hHeld => ?_)
  clear hK K hb
  try simp only [Act.put, List.setIfInBounds_toArray, List.set_cons_zero, List.set_cons_succ]
  refine' wpAnyH_take (i := 6) (v := _) (by simp only [List.getElem?_toArray, List.getElem?_cons_succ, List.getElem?_cons_zero]; exact rfl) (by kernel_rfl) (by kernel_rfl) (by kernel_rfl) (fun _ _ _ h => h) (Or.inl ⟨by rfl, ?y6x39⟩) hHeld ?r6x39
  case y6x39 => (intro w hSw; (try dsimp only at hSw); go_simp; try with_reducible rfl)
  try simp only [Act.put, List.setIfInBounds_toArray, List.set_cons_zero, List.set_cons_succ]
  refine wpAnyH_ready (rs := [9]) (by kernel_rfl) (by simp) ?_
  refine AllReadyH.cons (by simp only [List.getElem?_toArray, List.getElem?_cons_succ, List.getElem?_cons_zero]; exact rfl) (fun K hK => ?_) AllReadyH.nil
  go_simp
  refine (H2.out _).mono ?_
  rintro e w' ⟨rfl, hb⟩
  refine hK.out _ _ (bp_step hHeld hb) (fun hHeld => ?_)
  clear hK K hb
  try simp only [Act.put, List.setIfInBounds_toArray, List.set_cons_zero, List.set_cons_succ]
  refine' wpAnyH_take (i := 10) (v := _) (by simp only [List.getElem?_toArray, List.getElem?_cons_succ, List.getElem?_cons_zero]; exact rfl) (by kernel_rfl) (by kernel_rfl) (by kernel_rfl) (fun _ _ _ h => h) (Or.inl ⟨by rfl, ?y10x40⟩) hHeld ?r10x40
  case y10x40 => (intro w hSw; (try dsimp only at hSw); go_simp; try with_reducible rfl)
  try simp only [Act.put, List.setIfInBounds_toArray, List.set_cons_zero, List.set_cons_succ]
  refine wpAnyH_ready (rs := [13]) (by kernel_rfl) (by simp) ?_
  refine AllReadyH.cons (by simp only [List.getElem?_toArray, List.getElem?_cons_succ, List.getElem?_cons_zero]; exact rfl) (fun K hK => ?_) AllReadyH.nil
  go_simp
  refine (H3.out _).mono ?_
  rintro e w' ⟨rfl, hb⟩
  refine hK.out _ _ (bp_step hHeld hb) (fun hHeld => ?_)
  clear hK K hb
  try simp only [Act.put, List.setIfInBounds_toArray, List.set_cons_zero, List.set_cons_succ]
  refine' wpAnyH_take (i := 14) (v := _) (by simp only [List.getElem?_toArray, List.getElem?_cons_succ, List.getElem?_cons_zero]; exact rfl) (by kernel_rfl) (by kernel_rfl) (by kernel_rfl) (fun _ _ _ h => h) (Or.inl ⟨by rfl, ?y14x41⟩) hHeld ?r14x41
  case y14x41 => (intro w hSw; (try dsimp only at hSw); go_simp; try with_reducible rfl)
  try simp only [Act.put, List.setIfInBounds_toArray, List.set_cons_zero, List.set_cons_succ]
  refine' wpAnyH_take (i := 15) (v := _) (by simp only [List.getElem?_toArray, List.getElem?_cons_succ, List.getElem?_cons_zero]; exact rfl) (by kernel_rfl) (by kernel_rfl) (by kernel_rfl) (fun _ _ _ h => h) (Or.inl ⟨by rfl, ?y15x42⟩) hHeld ?r15x42
  case y15x42 => (intro w hSw; (try dsimp only at hSw); go_simp; try with_reducible rfl)
  try simp only [Act.put, List.setIfInBounds_toArray, List.set_cons_zero, List.set_cons_succ]
  refine wpAnyH_done (by kernel_rfl) ?_ _
  refine NoPanic.normal ?_
  have HBf := Lib.hid hHeld.2.2.2.2.2.2.2
  go_wp2_with fail
  go_ret
  exact ⟨by rw [← HAB.out]; rfl, HBf.out⟩
set_option maxRecDepth 100000 in
set_option maxHeartbeats 4000000 in
theorem rbytesP_any (c : PV) (w : World) (hO : POk c) :
    Calls Tryz.prog 19 #[.agg #[.int .i64 c.office, .int .i64 c.since, .int .i64 c.till, .int .i64 c.litres, .int .i64 c.e, .int .i64 c.s]] w fun e w' => e = .returned (.string ⟨(bytesP c).toArray⟩) ∧ Below w.heap.size w w' := by
  obtain ⟨A, hA⟩ : ∃ A : ByteArray, A = ⟨(coreP c).toArray⟩ := ⟨_, rfl⟩
  have HCo : Hid (∀ w0, Calls Tryz.prog 55 #[.agg #[.int .i64 c.office, .int .i64 c.since, .int .i64 c.till, .int .i64 c.litres, .int .i64 c.e, .int .i64 c.s]] w0 fun e w' => e = .returned (.string A) ∧ Below w0.heap.size w0 w') := Lib.hid (fun w0 => by
    rw [hA]
    exact rcoreP_any c w0 hO)
  have s : A.size ≤ 36 := by
    have h := coreP_len hO
    have h2 : A.data.toList.length ≤ 36 := by rw [hA]; exact h
    exact h2
  obtain ⟨-, -, -, -, h0, h1⟩ := hO
  obtain ⟨A0, hA0⟩ : ∃ A : ByteArray, A = ⟨(intL c.e).toArray⟩ := ⟨_, rfl⟩
  obtain ⟨A1, hA1⟩ : ∃ A : ByteArray, A = ⟨(intL c.s).toArray⟩ := ⟨_, rfl⟩
  have H0 : Hid (∀ w0, Calls Tryz.prog 50 #[.int .i64 c.e] w0 fun e w' => e = .returned (.string A0) ∧ Below w0.heap.size w0 w') := Lib.hid (fun w0 => by rw [hA0]; exact rint_any _ _ h0)
  have H1 : Hid (∀ w0, Calls Tryz.prog 50 #[.int .i64 c.s] w0 fun e w' => e = .returned (.string A1) ∧ Below w0.heap.size w0 w') := Lib.hid (fun w0 => by rw [hA1]; exact rint_any _ _ h1)
  have s0 := intB_len h0 hA0
  have s1 := intB_len h1 hA1
  have HAB : Hid ((A ++ A0) ++ A1 = ⟨(bytesP c).toArray⟩) := Lib.hid (by
    rw [hA, hA0, hA1, catL, catL]
    simp [bytesP])
  have z0 : ¬ 9223372036854775807 < A.size + A0.size := by omega
  have z1 : ¬ 9223372036854775807 < A.size + A0.size + A1.size := by omega
  clear hA hA0 hA1 s s0 s1 h0 h1
  go_enter Tryz.func19, Tryz.ntmps19
  go_upto_region 1 with fail
  have HB1 := Lib.hid ((Below.refl w.heap.size w).alloc (Nat.le_refl _) (.cells #[.int .i64 c.office, .int .i64 c.since, .int .i64 c.till, .int .i64 c.litres, .int .i64 c.e, .int .i64 c.s] 27))
  have Kh1 := Lib.hid (heap_alloc_new w (.cells #[.int .i64 c.office, .int .i64 c.since, .int .i64 c.till, .int .i64 c.litres, .int .i64 c.e, .int .i64 c.s] 27))
  generalize w.alloc (.cells #[.int .i64 c.office, .int .i64 c.since, .int .i64 c.till, .int .i64 c.litres, .int .i64 c.e, .int .i64 c.s] 27) = w1 at *
  have HS0 : Hid (w1.drew.heap[w.heap.size]? = some (.cells #[.int .i64 c.office, .int .i64 c.since, .int .i64 c.till, .int .i64 c.litres, .int .i64 c.e, .int .i64 c.s] 27) ∧ w1.drew.cell? ⟨w.heap.size, 0, none⟩ = some (.int .i64 c.office) ∧ w1.drew.cell? ⟨w.heap.size, 1, none⟩ = some (.int .i64 c.since) ∧ w1.drew.cell? ⟨w.heap.size, 2, none⟩ = some (.int .i64 c.till) ∧ w1.drew.cell? ⟨w.heap.size, 3, none⟩ = some (.int .i64 c.litres) ∧ w1.drew.cell? ⟨w.heap.size, 4, none⟩ = some (.int .i64 c.e) ∧ w1.drew.cell? ⟨w.heap.size, 5, none⟩ = some (.int .i64 c.s) ∧ Below w.heap.size w w1.drew) := Lib.hid ⟨Kh1.out, (cell_of_row _ _ _ _ _ _ Kh1.out).trans rfl, (cell_of_row _ _ _ _ _ _ Kh1.out).trans rfl, (cell_of_row _ _ _ _ _ _ Kh1.out).trans rfl, (cell_of_row _ _ _ _ _ _ Kh1.out).trans rfl, (cell_of_row _ _ _ _ _ _ Kh1.out).trans rfl, (cell_of_row _ _ _ _ _ _ Kh1.out).trans rfl, HB1.out.drew⟩
  clear Kh1 HB1
  refine wp_region_noPanic ?_
  refine wp_region_held_drew (S := fun w' => w'.heap[w.heap.size]? = some (.cells #[.int .i64 c.office, .int .i64 c.since, .int .i64 c.till, .int .i64 c.litres, .int .i64 c.e, .int .i64 c.s] 27) ∧ w'.cell? ⟨w.heap.size, 0, none⟩ = some (.int .i64 c.office) ∧ w'.cell? ⟨w.heap.size, 1, none⟩ = some (.int .i64 c.since) ∧ w'.cell? ⟨w.heap.size, 2, none⟩ = some (.int .i64 c.till) ∧ w'.cell? ⟨w.heap.size, 3, none⟩ = some (.int .i64 c.litres) ∧ w'.cell? ⟨w.heap.size, 4, none⟩ = some (.int .i64 c.e) ∧ w'.cell? ⟨w.heap.size, 5, none⟩ = some (.int .i64 c.s) ∧ Below w.heap.size w w') (by kernel_rfl) HS0.out (fun hHeld => ?_)
  refine' wpAnyH_take (i := 0) (v := _) (by simp only [List.getElem?_toArray, List.getElem?_cons_succ, List.getElem?_cons_zero]; exact rfl) (by kernel_rfl) (by kernel_rfl) (by kernel_rfl) (fun _ _ _ h => h) (Or.inl ⟨by rfl, ?y0x43⟩) hHeld ?r0x43
  case y0x43 => (intro w hSw; (try dsimp only at hSw); go_simp; try with_reducible rfl)
  try simp only [Act.put, List.setIfInBounds_toArray, List.set_cons_zero, List.set_cons_succ]
  refine' wpAnyH_take (i := 2) (v := _) (by simp only [List.getElem?_toArray, List.getElem?_cons_succ, List.getElem?_cons_zero]; exact rfl) (by kernel_rfl) (by kernel_rfl) (by kernel_rfl) (fun _ _ _ h => h) (Or.inl ⟨by rfl, ?y2x44⟩) hHeld ?r2x44
  case y2x44 => (intro w hSw; (try dsimp only at hSw); go_simp; try with_reducible rfl)
  try simp only [Act.put, List.setIfInBounds_toArray, List.set_cons_zero, List.set_cons_succ]
  refine' wpAnyH_take (i := 3) (v := _) (by simp only [List.getElem?_toArray, List.getElem?_cons_succ, List.getElem?_cons_zero]; exact rfl) (by kernel_rfl) (by kernel_rfl) (by kernel_rfl) (fun _ _ _ h => h) (Or.inl ⟨by rfl, ?y3x45⟩) hHeld ?r3x45
  case y3x45 => (intro w hSw; (try dsimp only at hSw); go_simp; try with_reducible rfl)
  try simp only [Act.put, List.setIfInBounds_toArray, List.set_cons_zero, List.set_cons_succ]
  refine' wpAnyH_take (i := 4) (v := _) (by simp only [List.getElem?_toArray, List.getElem?_cons_succ, List.getElem?_cons_zero]; exact rfl) (by kernel_rfl) (by kernel_rfl) (by kernel_rfl) (fun _ _ _ h => h) (Or.inl ⟨by rfl, ?y4x46⟩) hHeld ?r4x46
  case y4x46 => (intro w hSw; (try dsimp only at hSw); go_simp; try with_reducible rfl)
  try simp only [Act.put, List.setIfInBounds_toArray, List.set_cons_zero, List.set_cons_succ]
  refine' wpAnyH_take (i := 7) (v := _) (by simp only [List.getElem?_toArray, List.getElem?_cons_succ, List.getElem?_cons_zero]; exact rfl) (by kernel_rfl) (by kernel_rfl) (by kernel_rfl) (fun _ _ _ h => h) (Or.inl ⟨by rfl, ?y7x47⟩) hHeld ?r7x47
  case y7x47 => (intro w hSw; (try dsimp only at hSw); go_simp; try with_reducible rfl)
  try simp only [Act.put, List.setIfInBounds_toArray, List.set_cons_zero, List.set_cons_succ]
  refine' wpAnyH_take (i := 8) (v := _) (by simp only [List.getElem?_toArray, List.getElem?_cons_succ, List.getElem?_cons_zero]; exact rfl) (by kernel_rfl) (by kernel_rfl) (by kernel_rfl) (fun _ _ _ h => h) (Or.inl ⟨by rfl, ?y8x48⟩) hHeld ?r8x48
  case y8x48 => (intro w hSw; (try dsimp only at hSw); go_simp; try with_reducible rfl)
  try simp only [Act.put, List.setIfInBounds_toArray, List.set_cons_zero, List.set_cons_succ]
  refine' wpAnyH_take (i := 9) (v := _) (by simp only [List.getElem?_toArray, List.getElem?_cons_succ, List.getElem?_cons_zero]; exact rfl) (by kernel_rfl) (by kernel_rfl) (by kernel_rfl) (fun _ _ _ h => h) (Or.inl ⟨by rfl, ?y9x49⟩) hHeld ?r9x49
  case y9x49 => (intro w hSw; (try dsimp only at hSw); go_simp; try with_reducible rfl)
  try simp only [Act.put, List.setIfInBounds_toArray, List.set_cons_zero, List.set_cons_succ]
  refine wpAnyH_ready (rs := [1]) (by kernel_rfl) (by simp) ?_
  refine AllReadyH.cons (by simp only [List.getElem?_toArray, List.getElem?_cons_succ, List.getElem?_cons_zero]; exact rfl) (fun K hK => ?_) AllReadyH.nil
  go_simp
  refine (HCo.out _).mono ?_
  rintro e w' ⟨rfl, hb⟩
  refine hK.out _ _ (bp_step hHeld hb) (fun hHeld => ?_)
  clear hK K hb
  try simp only [Act.put, List.setIfInBounds_toArray, List.set_cons_zero, List.set_cons_succ]
  refine wpAnyH_ready (rs := [5]) (by kernel_rfl) (by simp) ?_
  refine AllReadyH.cons (by simp only [List.getElem?_toArray, List.getElem?_cons_succ, List.getElem?_cons_zero]; exact rfl) (fun K hK => ?_) AllReadyH.nil
  go_simp
  refine (H0.out _).mono ?_
  rintro e w' ⟨rfl, hb⟩
  refine hK.out _ _ (bp_step hHeld hb) (fun hHeld => ?_)
  clear hK K hb
  try simp only [Act.put, List.setIfInBounds_toArray, List.set_cons_zero, List.set_cons_succ]
  refine' wpAnyH_take (i := 6) (v := _) (by simp only [List.getElem?_toArray, List.getElem?_cons_succ, List.getElem?_cons_zero]; exact rfl) (by kernel_rfl) (by kernel_rfl) (by kernel_rfl) (fun _ _ _ h => h) (Or.inl ⟨by rfl, ?y6x50⟩) hHeld ?r6x50
  case y6x50 => (intro w hSw; (try dsimp only at hSw); go_simp; try with_reducible rfl)
  try simp only [Act.put, List.setIfInBounds_toArray, List.set_cons_zero, List.set_cons_succ]
  refine wpAnyH_ready (rs := [10]) (by kernel_rfl) (by simp) ?_
  refine AllReadyH.cons (by simp only [List.getElem?_toArray, List.getElem?_cons_succ, List.getElem?_cons_zero]; exact rfl) (fun K hK => ?_) AllReadyH.nil
  go_simp
  refine (H1.out _).mono ?_
  rintro e w' ⟨rfl, hb⟩
  refine hK.out _ _ (bp_step hHeld hb) (fun hHeld => ?_)
  clear hK K hb
  try simp only [Act.put, List.setIfInBounds_toArray, List.set_cons_zero, List.set_cons_succ]
  refine' wpAnyH_take (i := 11) (v := _) (by simp only [List.getElem?_toArray, List.getElem?_cons_succ, List.getElem?_cons_zero]; exact rfl) (by kernel_rfl) (by kernel_rfl) (by kernel_rfl) (fun _ _ _ h => h) (Or.inl ⟨by rfl, ?y11x51⟩) hHeld ?r11x51
  case y11x51 => (intro w hSw; (try dsimp only at hSw); go_simp; try with_reducible rfl)
  try simp only [Act.put, List.setIfInBounds_toArray, List.set_cons_zero, List.set_cons_succ]
  refine' wpAnyH_take (i := 12) (v := _) (by simp only [List.getElem?_toArray, List.getElem?_cons_succ, List.getElem?_cons_zero]; exact rfl) (by kernel_rfl) (by kernel_rfl) (by kernel_rfl) (fun _ _ _ h => h) (Or.inl ⟨by rfl, ?y12x52⟩) hHeld ?r12x52
  case y12x52 => (intro w hSw; (try dsimp only at hSw); go_simp; try with_reducible rfl)
  try simp only [Act.put, List.setIfInBounds_toArray, List.set_cons_zero, List.set_cons_succ]
  refine wpAnyH_done (by kernel_rfl) ?_ _
  refine NoPanic.normal ?_
  have HBf := Lib.hid hHeld.2.2.2.2.2.2.2
  go_wp2_with fail
  go_ret
  exact ⟨by rw [← HAB.out]; rfl, HBf.out⟩
set_option maxRecDepth 100000 in
set_option maxHeartbeats 2000000 in
theorem rdigestC_any (c : CV) (w : World) (hO : COk c) (hp : c.prev.size ≤ 1000) :
    Calls Tryz.prog 17 #[.agg #[.int .i64 c.office, .int .i64 c.hour, .int .i64 c.inn, .int .i64 c.out, .int .i64 c.store, .string c.prev, .int .i64 c.e, .int .i64 c.s]] w fun e w' => e = .returned (.string ⟨(digC c).toArray⟩) ∧ Below w.heap.size w w' := by
  obtain ⟨A, hA⟩ : ∃ A : ByteArray, A = ⟨(bytesC c).toArray⟩ := ⟨_, rfl⟩
  obtain ⟨B, hB⟩ : ∃ B : ByteArray, B = ⟨(digC c).toArray⟩ := ⟨_, rfl⟩
  have hAs : A.size ≤ 2065 := by
    have h2 : A.data.toList.length ≤ 2065 := by rw [hA]; exact bytesC_len hO hp
    exact h2
  have HBy : Hid (∀ w0, Calls Tryz.prog 15 #[.agg #[.int .i64 c.office, .int .i64 c.hour, .int .i64 c.inn, .int .i64 c.out, .int .i64 c.store, .string c.prev, .int .i64 c.e, .int .i64 c.s]] w0 fun e w' => e = .returned (.string A) ∧ Below w0.heap.size w0 w') := Lib.hid (fun w0 => by rw [hA]; exact rbytesC_any c w0 hO hp)
  have HS : Hid (∀ w0, Calls Tryz.prog 53 #[.string A] w0 fun e w' => e = .returned (.string B) ∧ Below w0.heap.size w0 w') := Lib.hid (fun w0 => by
    have h2 := rsum_any A w0 (by omega)
    have e : A.data.toList = bytesC c := by rw [hA]
    rw [e] at h2
    rw [hB]
    exact h2)
  rw [← hB]
  clear hA hB hAs hO hp
  go_enter Tryz.func17, Tryz.ntmps17
  go_upto_region 1 with fail
  have HB1 := Lib.hid ((Below.refl w.heap.size w).alloc (Nat.le_refl _) (.cells #[.int .i64 c.office, .int .i64 c.hour, .int .i64 c.inn, .int .i64 c.out, .int .i64 c.store, .string c.prev, .int .i64 c.e, .int .i64 c.s] 25))
  have Kh1 := Lib.hid (heap_alloc_new w (.cells #[.int .i64 c.office, .int .i64 c.hour, .int .i64 c.inn, .int .i64 c.out, .int .i64 c.store, .string c.prev, .int .i64 c.e, .int .i64 c.s] 25))
  generalize w.alloc (.cells #[.int .i64 c.office, .int .i64 c.hour, .int .i64 c.inn, .int .i64 c.out, .int .i64 c.store, .string c.prev, .int .i64 c.e, .int .i64 c.s] 25) = w1 at *
  have cK0 : w1.cell? ⟨w.heap.size, 0, none⟩ = some (.int .i64 c.office) := (cell_of_row _ _ _ _ _ _ Kh1.out).trans rfl
  have cK1 : w1.cell? ⟨w.heap.size, 1, none⟩ = some (.int .i64 c.hour) := (cell_of_row _ _ _ _ _ _ Kh1.out).trans rfl
  have cK2 : w1.cell? ⟨w.heap.size, 2, none⟩ = some (.int .i64 c.inn) := (cell_of_row _ _ _ _ _ _ Kh1.out).trans rfl
  have cK3 : w1.cell? ⟨w.heap.size, 3, none⟩ = some (.int .i64 c.out) := (cell_of_row _ _ _ _ _ _ Kh1.out).trans rfl
  have cK4 : w1.cell? ⟨w.heap.size, 4, none⟩ = some (.int .i64 c.store) := (cell_of_row _ _ _ _ _ _ Kh1.out).trans rfl
  have cK5 : w1.cell? ⟨w.heap.size, 5, none⟩ = some (.string c.prev) := (cell_of_row _ _ _ _ _ _ Kh1.out).trans rfl
  have cK6 : w1.cell? ⟨w.heap.size, 6, none⟩ = some (.int .i64 c.e) := (cell_of_row _ _ _ _ _ _ Kh1.out).trans rfl
  have cK7 : w1.cell? ⟨w.heap.size, 7, none⟩ = some (.int .i64 c.s) := (cell_of_row _ _ _ _ _ _ Kh1.out).trans rfl
  go_wp2_with fail
  refine (HBy.out _).mono ?_
  rintro e w2 ⟨rfl, hb⟩
  have HB2 := Lib.hid (HB1.out.trans (hb.mono HB1.out.size))
  have Kh2 := Lib.hid (blk_below Kh1.out hb (blk_lt Kh1.out))
  clear cK0 cK1 cK2 cK3 cK4 cK5 cK6 cK7
  clear HB1 Kh1
  clear hb
  have cK0 : w2.cell? ⟨w.heap.size, 0, none⟩ = some (.int .i64 c.office) := (cell_of_row _ _ _ _ _ _ Kh2.out).trans rfl
  have cK1 : w2.cell? ⟨w.heap.size, 1, none⟩ = some (.int .i64 c.hour) := (cell_of_row _ _ _ _ _ _ Kh2.out).trans rfl
  have cK2 : w2.cell? ⟨w.heap.size, 2, none⟩ = some (.int .i64 c.inn) := (cell_of_row _ _ _ _ _ _ Kh2.out).trans rfl
  have cK3 : w2.cell? ⟨w.heap.size, 3, none⟩ = some (.int .i64 c.out) := (cell_of_row _ _ _ _ _ _ Kh2.out).trans rfl
  have cK4 : w2.cell? ⟨w.heap.size, 4, none⟩ = some (.int .i64 c.store) := (cell_of_row _ _ _ _ _ _ Kh2.out).trans rfl
  have cK5 : w2.cell? ⟨w.heap.size, 5, none⟩ = some (.string c.prev) := (cell_of_row _ _ _ _ _ _ Kh2.out).trans rfl
  have cK6 : w2.cell? ⟨w.heap.size, 6, none⟩ = some (.int .i64 c.e) := (cell_of_row _ _ _ _ _ _ Kh2.out).trans rfl
  have cK7 : w2.cell? ⟨w.heap.size, 7, none⟩ = some (.int .i64 c.s) := (cell_of_row _ _ _ _ _ _ Kh2.out).trans rfl
  go_wp2_with fail
  refine (HS.out _).mono ?_
  rintro e w3 ⟨rfl, hb⟩
  have HB3 := Lib.hid (HB2.out.trans (hb.mono HB2.out.size))
  have Kh3 := Lib.hid (blk_below Kh2.out hb (blk_lt Kh2.out))
  clear cK0 cK1 cK2 cK3 cK4 cK5 cK6 cK7
  clear HB2 Kh2
  clear hb
  have cK0 : w3.cell? ⟨w.heap.size, 0, none⟩ = some (.int .i64 c.office) := (cell_of_row _ _ _ _ _ _ Kh3.out).trans rfl
  have cK1 : w3.cell? ⟨w.heap.size, 1, none⟩ = some (.int .i64 c.hour) := (cell_of_row _ _ _ _ _ _ Kh3.out).trans rfl
  have cK2 : w3.cell? ⟨w.heap.size, 2, none⟩ = some (.int .i64 c.inn) := (cell_of_row _ _ _ _ _ _ Kh3.out).trans rfl
  have cK3 : w3.cell? ⟨w.heap.size, 3, none⟩ = some (.int .i64 c.out) := (cell_of_row _ _ _ _ _ _ Kh3.out).trans rfl
  have cK4 : w3.cell? ⟨w.heap.size, 4, none⟩ = some (.int .i64 c.store) := (cell_of_row _ _ _ _ _ _ Kh3.out).trans rfl
  have cK5 : w3.cell? ⟨w.heap.size, 5, none⟩ = some (.string c.prev) := (cell_of_row _ _ _ _ _ _ Kh3.out).trans rfl
  have cK6 : w3.cell? ⟨w.heap.size, 6, none⟩ = some (.int .i64 c.e) := (cell_of_row _ _ _ _ _ _ Kh3.out).trans rfl
  have cK7 : w3.cell? ⟨w.heap.size, 7, none⟩ = some (.int .i64 c.s) := (cell_of_row _ _ _ _ _ _ Kh3.out).trans rfl
  go_wp2_with fail
  go_ret
  exact ⟨rfl, HB3.out⟩
set_option maxRecDepth 100000 in
set_option maxHeartbeats 2000000 in
theorem rverifyC_any (p : Int) (c : CV) (w : World) (hpi : I64 p) (hO : COk c) (hp : c.prev.size ≤ 900) :
    Calls Tryz.prog 23 #[.int .i64 p, .agg #[.int .i64 c.office, .int .i64 c.hour, .int .i64 c.inn, .int .i64 c.out, .int .i64 c.store, .string c.prev, .int .i64 c.e, .int .i64 c.s]] w fun e w' => e = .returned (.bool (decide (VouchedC p c))) ∧ Below w.heap.size w w' := by
  obtain ⟨A, hA⟩ : ∃ A : ByteArray, A = ⟨(coreC c).toArray⟩ := ⟨_, rfl⟩
  have HCo : Hid (∀ w0, Calls Tryz.prog 13 #[.agg #[.int .i64 c.office, .int .i64 c.hour, .int .i64 c.inn, .int .i64 c.out, .int .i64 c.store, .string c.prev, .int .i64 c.e, .int .i64 c.s]] w0 fun e w' => e = .returned (.string A) ∧ Below w0.heap.size w0 w') := Lib.hid (fun w0 => by
    rw [hA]
    exact rcoreC_any c w0 hO (by omega))
  have hAs : A.size ≤ 2000 := by
    have l2 := textL_len c.prev.data.toList
    have l3 : c.prev.data.toList.length = c.prev.size := by simp
    have h : (coreC c).length ≤ 1900 := by
      obtain ⟨h1, h2, h3, h4, h5, -⟩ := hO
      have := intL_len h1; have := intL_len h2; have := intL_len h3; have := intL_len h4; have := intL_len h5
      simp [coreC, textC]
      omega
    have h2 : A.data.toList.length ≤ 2000 := by rw [hA]; show (coreC c).length ≤ 2000; omega
    exact h2
  obtain ⟨b, hb⟩ : ∃ b, b = decide (VouchedC p c) := ⟨_, rfl⟩
  have HV : Hid (∀ w0, Calls Tryz.prog 59 #[.int .i64 p, .string ⟨#[99, 108, 97, 105, 109]⟩, .string A, .agg #[.int .i64 c.e, .int .i64 c.s]] w0 fun e w' => e = .returned (.bool b) ∧ Below w0.heap.size w0 w') := Lib.hid (fun w0 => by
    have h := rverify_any p c.e c.s ⟨#[99, 108, 97, 105, 109]⟩ A w0 hpi (by decide) hAs
    have e : A.data.toList = coreC c := by rw [hA]
    rw [e] at h
    rw [hb]
    exact h)
  rw [← hb]
  clear hA hAs hb hO hpi hp
  go_enter Tryz.func23, Tryz.ntmps23
  go_upto_region 1 with fail
  have HB1 := Lib.hid ((Below.refl w.heap.size w).alloc (Nat.le_refl _) (.cells #[.int .i64 c.office, .int .i64 c.hour, .int .i64 c.inn, .int .i64 c.out, .int .i64 c.store, .string c.prev, .int .i64 c.e, .int .i64 c.s] 25))
  have Kh1 := Lib.hid (heap_alloc_new w (.cells #[.int .i64 c.office, .int .i64 c.hour, .int .i64 c.inn, .int .i64 c.out, .int .i64 c.store, .string c.prev, .int .i64 c.e, .int .i64 c.s] 25))
  generalize w.alloc (.cells #[.int .i64 c.office, .int .i64 c.hour, .int .i64 c.inn, .int .i64 c.out, .int .i64 c.store, .string c.prev, .int .i64 c.e, .int .i64 c.s] 25) = w1 at *
  have HS0 : Hid (w1.heap[w.heap.size]? = some (.cells #[.int .i64 c.office, .int .i64 c.hour, .int .i64 c.inn, .int .i64 c.out, .int .i64 c.store, .string c.prev, .int .i64 c.e, .int .i64 c.s] 25) ∧ w1.cell? ⟨w.heap.size, 0, none⟩ = some (.int .i64 c.office) ∧ w1.cell? ⟨w.heap.size, 1, none⟩ = some (.int .i64 c.hour) ∧ w1.cell? ⟨w.heap.size, 2, none⟩ = some (.int .i64 c.inn) ∧ w1.cell? ⟨w.heap.size, 3, none⟩ = some (.int .i64 c.out) ∧ w1.cell? ⟨w.heap.size, 4, none⟩ = some (.int .i64 c.store) ∧ w1.cell? ⟨w.heap.size, 5, none⟩ = some (.string c.prev) ∧ w1.cell? ⟨w.heap.size, 6, none⟩ = some (.int .i64 c.e) ∧ w1.cell? ⟨w.heap.size, 7, none⟩ = some (.int .i64 c.s) ∧ Below w.heap.size w w1) := Lib.hid ⟨Kh1.out, (cell_of_row _ _ _ _ _ _ Kh1.out).trans rfl, (cell_of_row _ _ _ _ _ _ Kh1.out).trans rfl, (cell_of_row _ _ _ _ _ _ Kh1.out).trans rfl, (cell_of_row _ _ _ _ _ _ Kh1.out).trans rfl, (cell_of_row _ _ _ _ _ _ Kh1.out).trans rfl, (cell_of_row _ _ _ _ _ _ Kh1.out).trans rfl, (cell_of_row _ _ _ _ _ _ Kh1.out).trans rfl, (cell_of_row _ _ _ _ _ _ Kh1.out).trans rfl, HB1.out⟩
  clear Kh1 HB1
  go_region_held3 (fun w' => w'.heap[w.heap.size]? = some (.cells #[.int .i64 c.office, .int .i64 c.hour, .int .i64 c.inn, .int .i64 c.out, .int .i64 c.store, .string c.prev, .int .i64 c.e, .int .i64 c.s] 25) ∧ w'.cell? ⟨w.heap.size, 0, none⟩ = some (.int .i64 c.office) ∧ w'.cell? ⟨w.heap.size, 1, none⟩ = some (.int .i64 c.hour) ∧ w'.cell? ⟨w.heap.size, 2, none⟩ = some (.int .i64 c.inn) ∧ w'.cell? ⟨w.heap.size, 3, none⟩ = some (.int .i64 c.out) ∧ w'.cell? ⟨w.heap.size, 4, none⟩ = some (.int .i64 c.store) ∧ w'.cell? ⟨w.heap.size, 5, none⟩ = some (.string c.prev) ∧ w'.cell? ⟨w.heap.size, 6, none⟩ = some (.int .i64 c.e) ∧ w'.cell? ⟨w.heap.size, 7, none⟩ = some (.int .i64 c.s) ∧ Below w.heap.size w w') (first | assumption | exact HS0.out | exact bc_step (by assumption) hb | exact bc_stepN (by assumption) _ | exact bc_stepA (by assumption) | exact bc_stepU (by assumption) | exact bc_stepN (bc_stepU (by assumption)) _) ((first | (go_at_call 13; refine (HCo.out _).mono ?_; rintro e w' ⟨rfl, hb⟩) | (go_at_call 59; refine (HV.out _).mono ?_; rintro e w' ⟨rfl, hb⟩)))
  rename World => w2
  rename _ ∧ _ => hFin
  obtain ⟨qK, -, -, -, -, -, -, -, -, qBel⟩ := hFin
  have Kh2 := Lib.hid qK
  have HB2 := Lib.hid qBel
  clear HS0 qBel qK
  have cK0 : w2.cell? ⟨w.heap.size, 0, none⟩ = some (.int .i64 c.office) := (cell_of_row _ _ _ _ _ _ Kh2.out).trans rfl
  have cK1 : w2.cell? ⟨w.heap.size, 1, none⟩ = some (.int .i64 c.hour) := (cell_of_row _ _ _ _ _ _ Kh2.out).trans rfl
  have cK2 : w2.cell? ⟨w.heap.size, 2, none⟩ = some (.int .i64 c.inn) := (cell_of_row _ _ _ _ _ _ Kh2.out).trans rfl
  have cK3 : w2.cell? ⟨w.heap.size, 3, none⟩ = some (.int .i64 c.out) := (cell_of_row _ _ _ _ _ _ Kh2.out).trans rfl
  have cK4 : w2.cell? ⟨w.heap.size, 4, none⟩ = some (.int .i64 c.store) := (cell_of_row _ _ _ _ _ _ Kh2.out).trans rfl
  have cK5 : w2.cell? ⟨w.heap.size, 5, none⟩ = some (.string c.prev) := (cell_of_row _ _ _ _ _ _ Kh2.out).trans rfl
  have cK6 : w2.cell? ⟨w.heap.size, 6, none⟩ = some (.int .i64 c.e) := (cell_of_row _ _ _ _ _ _ Kh2.out).trans rfl
  have cK7 : w2.cell? ⟨w.heap.size, 7, none⟩ = some (.int .i64 c.s) := (cell_of_row _ _ _ _ _ _ Kh2.out).trans rfl
  go_wp2_with fail
  go_ret
  exact ⟨rfl, HB2.out⟩
set_option maxRecDepth 100000 in
set_option maxHeartbeats 2000000 in
theorem rverifyP_any (p : Int) (c : PV) (w : World) (hpi : I64 p) (hO : POk c) :
    Calls Tryz.prog 27 #[.int .i64 p, .agg #[.int .i64 c.office, .int .i64 c.since, .int .i64 c.till, .int .i64 c.litres, .int .i64 c.e, .int .i64 c.s]] w fun e w' => e = .returned (.bool (decide (VouchedP p c))) ∧ Below w.heap.size w w' := by
  obtain ⟨A, hA⟩ : ∃ A : ByteArray, A = ⟨(coreP c).toArray⟩ := ⟨_, rfl⟩
  have HCo : Hid (∀ w0, Calls Tryz.prog 55 #[.agg #[.int .i64 c.office, .int .i64 c.since, .int .i64 c.till, .int .i64 c.litres, .int .i64 c.e, .int .i64 c.s]] w0 fun e w' => e = .returned (.string A) ∧ Below w0.heap.size w0 w') := Lib.hid (fun w0 => by
    rw [hA]
    exact rcoreP_any c w0 hO)
  have hAs : A.size ≤ 2000 := by
    have h := coreP_len hO
    have h2 : A.data.toList.length ≤ 2000 := by rw [hA]; show (coreP c).length ≤ 2000; omega
    exact h2
  obtain ⟨b, hb⟩ : ∃ b, b = decide (VouchedP p c) := ⟨_, rfl⟩
  have HV : Hid (∀ w0, Calls Tryz.prog 59 #[.int .i64 p, .string ⟨#[112, 114, 111, 109, 105, 115, 101]⟩, .string A, .agg #[.int .i64 c.e, .int .i64 c.s]] w0 fun e w' => e = .returned (.bool b) ∧ Below w0.heap.size w0 w') := Lib.hid (fun w0 => by
    have h := rverify_any p c.e c.s ⟨#[112, 114, 111, 109, 105, 115, 101]⟩ A w0 hpi (by decide) hAs
    have e : A.data.toList = coreP c := by rw [hA]
    rw [e] at h
    rw [hb]
    exact h)
  rw [← hb]
  clear hA hAs hb hO hpi
  go_enter Tryz.func27, Tryz.ntmps27
  go_upto_region 1 with fail
  have HB1 := Lib.hid ((Below.refl w.heap.size w).alloc (Nat.le_refl _) (.cells #[.int .i64 c.office, .int .i64 c.since, .int .i64 c.till, .int .i64 c.litres, .int .i64 c.e, .int .i64 c.s] 27))
  have Kh1 := Lib.hid (heap_alloc_new w (.cells #[.int .i64 c.office, .int .i64 c.since, .int .i64 c.till, .int .i64 c.litres, .int .i64 c.e, .int .i64 c.s] 27))
  generalize w.alloc (.cells #[.int .i64 c.office, .int .i64 c.since, .int .i64 c.till, .int .i64 c.litres, .int .i64 c.e, .int .i64 c.s] 27) = w1 at *
  have HS0 : Hid (w1.heap[w.heap.size]? = some (.cells #[.int .i64 c.office, .int .i64 c.since, .int .i64 c.till, .int .i64 c.litres, .int .i64 c.e, .int .i64 c.s] 27) ∧ w1.cell? ⟨w.heap.size, 0, none⟩ = some (.int .i64 c.office) ∧ w1.cell? ⟨w.heap.size, 1, none⟩ = some (.int .i64 c.since) ∧ w1.cell? ⟨w.heap.size, 2, none⟩ = some (.int .i64 c.till) ∧ w1.cell? ⟨w.heap.size, 3, none⟩ = some (.int .i64 c.litres) ∧ w1.cell? ⟨w.heap.size, 4, none⟩ = some (.int .i64 c.e) ∧ w1.cell? ⟨w.heap.size, 5, none⟩ = some (.int .i64 c.s) ∧ Below w.heap.size w w1) := Lib.hid ⟨Kh1.out, (cell_of_row _ _ _ _ _ _ Kh1.out).trans rfl, (cell_of_row _ _ _ _ _ _ Kh1.out).trans rfl, (cell_of_row _ _ _ _ _ _ Kh1.out).trans rfl, (cell_of_row _ _ _ _ _ _ Kh1.out).trans rfl, (cell_of_row _ _ _ _ _ _ Kh1.out).trans rfl, (cell_of_row _ _ _ _ _ _ Kh1.out).trans rfl, HB1.out⟩
  clear Kh1 HB1
  go_region_held3 (fun w' => w'.heap[w.heap.size]? = some (.cells #[.int .i64 c.office, .int .i64 c.since, .int .i64 c.till, .int .i64 c.litres, .int .i64 c.e, .int .i64 c.s] 27) ∧ w'.cell? ⟨w.heap.size, 0, none⟩ = some (.int .i64 c.office) ∧ w'.cell? ⟨w.heap.size, 1, none⟩ = some (.int .i64 c.since) ∧ w'.cell? ⟨w.heap.size, 2, none⟩ = some (.int .i64 c.till) ∧ w'.cell? ⟨w.heap.size, 3, none⟩ = some (.int .i64 c.litres) ∧ w'.cell? ⟨w.heap.size, 4, none⟩ = some (.int .i64 c.e) ∧ w'.cell? ⟨w.heap.size, 5, none⟩ = some (.int .i64 c.s) ∧ Below w.heap.size w w') (first | assumption | exact HS0.out | exact bp_step (by assumption) hb | exact bp_stepN (by assumption) _ | exact bp_stepA (by assumption) | exact bp_stepU (by assumption) | exact bp_stepN (bp_stepU (by assumption)) _) ((first | (go_at_call 55; refine (HCo.out _).mono ?_; rintro e w' ⟨rfl, hb⟩) | (go_at_call 59; refine (HV.out _).mono ?_; rintro e w' ⟨rfl, hb⟩)))
  rename World => w2
  rename _ ∧ _ => hFin
  obtain ⟨qK, -, -, -, -, -, -, qBel⟩ := hFin
  have Kh2 := Lib.hid qK
  have HB2 := Lib.hid qBel
  clear HS0 qBel qK
  have cK0 : w2.cell? ⟨w.heap.size, 0, none⟩ = some (.int .i64 c.office) := (cell_of_row _ _ _ _ _ _ Kh2.out).trans rfl
  have cK1 : w2.cell? ⟨w.heap.size, 1, none⟩ = some (.int .i64 c.since) := (cell_of_row _ _ _ _ _ _ Kh2.out).trans rfl
  have cK2 : w2.cell? ⟨w.heap.size, 2, none⟩ = some (.int .i64 c.till) := (cell_of_row _ _ _ _ _ _ Kh2.out).trans rfl
  have cK3 : w2.cell? ⟨w.heap.size, 3, none⟩ = some (.int .i64 c.litres) := (cell_of_row _ _ _ _ _ _ Kh2.out).trans rfl
  have cK4 : w2.cell? ⟨w.heap.size, 4, none⟩ = some (.int .i64 c.e) := (cell_of_row _ _ _ _ _ _ Kh2.out).trans rfl
  have cK5 : w2.cell? ⟨w.heap.size, 5, none⟩ = some (.int .i64 c.s) := (cell_of_row _ _ _ _ _ _ Kh2.out).trans rfl
  go_wp2_with fail
  go_ret
  exact ⟨rfl, HB2.out⟩
set_option maxRecDepth 100000 in
set_option maxHeartbeats 2000000 in
theorem rsignC_any (x p : Int) (c : CV) (w : World) (hO : COk c) (hp : c.prev.size ≤ 900) :
    Calls Tryz.prog 21 #[.agg #[.int .i64 x, .int .i64 p], .agg #[.int .i64 c.office, .int .i64 c.hour, .int .i64 c.inn, .int .i64 c.out, .int .i64 c.store, .string c.prev, .int .i64 c.e, .int .i64 c.s]] w fun e w' => e = .returned (.agg #[.int .i64 c.office, .int .i64 c.hour, .int .i64 c.inn, .int .i64 c.out, .int .i64 c.store, .string c.prev, .int .i64 (signR x p ctxC (coreC c)).1, .int .i64 (signR x p ctxC (coreC c)).2]) ∧ Below w.heap.size w w' := by
  obtain ⟨A, hA⟩ : ∃ A : ByteArray, A = ⟨(coreC c).toArray⟩ := ⟨_, rfl⟩
  obtain ⟨g1, hg1⟩ : ∃ g, g = (signR x p ctxC (coreC c)).1 := ⟨_, rfl⟩
  obtain ⟨g2, hg2⟩ : ∃ g, g = (signR x p ctxC (coreC c)).2 := ⟨_, rfl⟩
  have HCo : Hid (∀ w0, Calls Tryz.prog 13 #[.agg #[.int .i64 c.office, .int .i64 c.hour, .int .i64 c.inn, .int .i64 c.out, .int .i64 c.store, .string c.prev, .int .i64 c.e, .int .i64 c.s]] w0 fun e w' => e = .returned (.string A) ∧ Below w0.heap.size w0 w') := Lib.hid (fun w0 => by
    rw [hA]
    exact rcoreC_any c w0 hO (by omega))
  have HSg : Hid (∀ w0, Calls Tryz.prog 57 #[.agg #[.int .i64 x, .int .i64 p], .string ⟨#[99, 108, 97, 105, 109]⟩, .string A] w0 fun e w' => e = .returned (.agg #[.int .i64 g1, .int .i64 g2]) ∧ Below w0.heap.size w0 w') := Lib.hid (fun w0 => by
    have h := rsign_any x p ⟨#[99, 108, 97, 105, 109]⟩ A w0 (by decide) (coreC_size hO hp hA)
    have e : A.data.toList = coreC c := by rw [hA]
    rw [e] at h
    rw [hg1, hg2]
    exact h)
  have hu : Tryz.prog.underlying 25 = some (.struct (Tryz.prog.fieldsOf 25)) := by kernel_rfl
  have hinf : (Tryz.prog.info? 25).map (·.size) = some 8 := by kernel_rfl
  rw [← hg1, ← hg2]
  obtain ⟨r0, r1, r2, rb⟩ := three_rows (w := w) (A := .cells #[.int .i64 x, .int .i64 p] 29) (B := .cells #[.int .i64 c.office, .int .i64 c.hour, .int .i64 c.inn, .int .i64 c.out, .int .i64 c.store, .string c.prev, .int .i64 c.e, .int .i64 c.s] 25) (C := .cells #[.int .i64 0, .int .i64 0, .int .i64 0, .int .i64 0, .int .i64 0, .string ⟨#[]⟩, .int .i64 0, .int .i64 0] 25)
  have HK0 := Lib.hid r0
  have HB0 := Lib.hid r1
  have HR0 := Lib.hid r2
  have HW0 := Lib.hid rb
  clear hA hg1 hg2 hO r0 r1 r2 rb hp
  go_enter Tryz.func21, Tryz.ntmps21
  go_upto_region 1 with fail
  generalize ((w.alloc (.cells #[.int .i64 x, .int .i64 p] 29)).alloc (.cells #[.int .i64 c.office, .int .i64 c.hour, .int .i64 c.inn, .int .i64 c.out, .int .i64 c.store, .string c.prev, .int .i64 c.e, .int .i64 c.s] 25)).alloc (.cells #[.int .i64 0, .int .i64 0, .int .i64 0, .int .i64 0, .int .i64 0, .string ⟨#[]⟩, .int .i64 0, .int .i64 0] 25) = w3 at *
  have HS0 : Hid (w3.drew.heap[w.heap.size]? = some (.cells #[.int .i64 x, .int .i64 p] 29) ∧ w3.drew.cell? ⟨w.heap.size, 0, none⟩ = some (.int .i64 x) ∧ w3.drew.cell? ⟨w.heap.size, 1, none⟩ = some (.int .i64 p) ∧ Below w.heap.size w w3.drew) := Lib.hid ⟨HK0.out, (cell_of_row _ _ _ _ _ _ HK0.out).trans rfl, (cell_of_row _ _ _ _ _ _ HK0.out).trans rfl, HW0.out.drew⟩
  have Bh0 : Hid (w3.drew.heap[w.heap.size + 1]? = some (.cells #[.int .i64 c.office, .int .i64 c.hour, .int .i64 c.inn, .int .i64 c.out, .int .i64 c.store, .string c.prev, .int .i64 c.e, .int .i64 c.s] 25)) := Lib.hid HB0.out
  have Rh0 : Hid (w3.drew.heap[w.heap.size + 1 + 1]? = some (.cells #[.int .i64 0, .int .i64 0, .int .i64 0, .int .i64 0, .int .i64 0, .string ⟨#[]⟩, .int .i64 0, .int .i64 0] 25)) := Lib.hid HR0.out
  clear HK0 HB0 HR0 HW0
  refine wp_region_noPanic ?_
  refine wp_region_held_drew (S := fun w' => w'.heap[w.heap.size]? = some (.cells #[.int .i64 x, .int .i64 p] 29) ∧ w'.cell? ⟨w.heap.size, 0, none⟩ = some (.int .i64 x) ∧ w'.cell? ⟨w.heap.size, 1, none⟩ = some (.int .i64 p) ∧ Below w.heap.size w w') (by kernel_rfl) HS0.out (fun hHeld => ?_)
  refine' wpAnyH_take (i := 0) (v := _) (by simp only [List.getElem?_toArray, List.getElem?_cons_zero]; exact rfl) (by kernel_rfl) (by kernel_rfl) (by kernel_rfl) (fun _ _ _ h => h) (Or.inl ⟨by rfl, ?y0x1⟩) hHeld ?r0x1
  case y0x1 => (intro w hSw; (try dsimp only at hSw); go_simp; try with_reducible rfl)
  try simp only [Act.put, List.setIfInBounds_toArray, List.set_cons_zero, List.set_cons_succ]
  refine wpAnyH_ready (rs := [1]) (by kernel_rfl) (by simp) ?_
  refine AllReadyH.cons (by simp only [List.getElem?_toArray, List.getElem?_cons_succ, List.getElem?_cons_zero]; exact rfl) (fun K hK => ?_) AllReadyH.nil
  have d0 : w3.drew.cell? ⟨w.heap.size + 1, 0, none⟩ = some (.int .i64 c.office) := (cell_of_row _ _ _ _ _ _ Bh0.out).trans rfl
  have d1 : w3.drew.cell? ⟨w.heap.size + 1, 1, none⟩ = some (.int .i64 c.hour) := (cell_of_row _ _ _ _ _ _ Bh0.out).trans rfl
  have d2 : w3.drew.cell? ⟨w.heap.size + 1, 2, none⟩ = some (.int .i64 c.inn) := (cell_of_row _ _ _ _ _ _ Bh0.out).trans rfl
  have d3 : w3.drew.cell? ⟨w.heap.size + 1, 3, none⟩ = some (.int .i64 c.out) := (cell_of_row _ _ _ _ _ _ Bh0.out).trans rfl
  have d4 : w3.drew.cell? ⟨w.heap.size + 1, 4, none⟩ = some (.int .i64 c.store) := (cell_of_row _ _ _ _ _ _ Bh0.out).trans rfl
  have d5 : w3.drew.cell? ⟨w.heap.size + 1, 5, none⟩ = some (.string c.prev) := (cell_of_row _ _ _ _ _ _ Bh0.out).trans rfl
  have d6 : w3.drew.cell? ⟨w.heap.size + 1, 6, none⟩ = some (.int .i64 c.e) := (cell_of_row _ _ _ _ _ _ Bh0.out).trans rfl
  have d7 : w3.drew.cell? ⟨w.heap.size + 1, 7, none⟩ = some (.int .i64 c.s) := (cell_of_row _ _ _ _ _ _ Bh0.out).trans rfl
  go_simp
  refine hK.out _ _ hHeld (fun hHeld => ?_)
  clear hK K d0 d1 d2 d3 d4 d5 d6 d7
  try simp only [Act.put, List.setIfInBounds_toArray, List.set_cons_zero, List.set_cons_succ]
  refine wpAnyH_ready (rs := [2]) (by kernel_rfl) (by simp) ?_
  refine AllReadyH.cons (by simp only [List.getElem?_toArray, List.getElem?_cons_succ, List.getElem?_cons_zero]; exact rfl) (fun K hK => ?_) AllReadyH.nil
  go_simp
  refine (HCo.out _).mono ?_
  rintro e w4 ⟨rfl, hb⟩
  have Bh1 : Hid (w4.heap[w.heap.size + 1]? = some (.cells #[.int .i64 c.office, .int .i64 c.hour, .int .i64 c.inn, .int .i64 c.out, .int .i64 c.store, .string c.prev, .int .i64 c.e, .int .i64 c.s] 25)) := Lib.hid (blk_below Bh0.out hb (blk_lt Bh0.out))
  have Rh1 : Hid (w4.heap[w.heap.size + 1 + 1]? = some (.cells #[.int .i64 0, .int .i64 0, .int .i64 0, .int .i64 0, .int .i64 0, .string ⟨#[]⟩, .int .i64 0, .int .i64 0] 25)) := Lib.hid (blk_below Rh0.out hb (blk_lt Rh0.out))
  clear Bh0 Rh0
  refine hK.out _ _ (key_step hHeld hb) (fun hHeld => ?_)
  clear hK K hb
  try simp only [Act.put, List.setIfInBounds_toArray, List.set_cons_zero, List.set_cons_succ]
  refine wpAnyH_ready (rs := [3]) (by kernel_rfl) (by simp) ?_
  refine AllReadyH.cons (by simp only [List.getElem?_toArray, List.getElem?_cons_succ, List.getElem?_cons_zero]; exact rfl) (fun K hK => ?_) AllReadyH.nil
  go_simp
  refine (HSg.out _).mono ?_
  rintro e w5 ⟨rfl, hb⟩
  have Bh2 : Hid (w5.heap[w.heap.size + 1]? = some (.cells #[.int .i64 c.office, .int .i64 c.hour, .int .i64 c.inn, .int .i64 c.out, .int .i64 c.store, .string c.prev, .int .i64 c.e, .int .i64 c.s] 25)) := Lib.hid (blk_below Bh1.out hb (blk_lt Bh1.out))
  have Rh2 : Hid (w5.heap[w.heap.size + 1 + 1]? = some (.cells #[.int .i64 0, .int .i64 0, .int .i64 0, .int .i64 0, .int .i64 0, .string ⟨#[]⟩, .int .i64 0, .int .i64 0] 25)) := Lib.hid (blk_below Rh1.out hb (blk_lt Rh1.out))
  clear Bh1 Rh1
  refine hK.out _ _ (key_step hHeld hb) (fun hHeld => ?_)
  clear hK K hb
  try simp only [Act.put, List.setIfInBounds_toArray, List.set_cons_zero, List.set_cons_succ]
  refine' wpAnyH_take (i := 4) (v := _) (by simp only [List.getElem?_toArray, List.getElem?_cons_succ, List.getElem?_cons_zero]; exact rfl) (by kernel_rfl) (by kernel_rfl) (by kernel_rfl) (fun _ _ _ h => h) (Or.inl ⟨by rfl, ?y4x2⟩) hHeld ?r4x2
  case y4x2 => (intro w hSw; (try dsimp only at hSw); go_simp; try with_reducible rfl)
  try simp only [Act.put, List.setIfInBounds_toArray, List.set_cons_zero, List.set_cons_succ]
  refine wpAnyH_ready (rs := [5]) (by kernel_rfl) (by simp) ?_
  refine AllReadyH.cons (by simp only [List.getElem?_toArray, List.getElem?_cons_succ, List.getElem?_cons_zero]; exact rfl) (fun K hK => ?_) AllReadyH.nil
  have d6 : w5.cell? ⟨w.heap.size + 1, 6, none⟩ = some (.int .i64 c.e) := (cell_of_row _ _ _ _ _ _ Bh2.out).trans rfl
  have z6 : w5.frozen? ⟨w.heap.size + 1, 6, none⟩ = false := frozen_of_row _ _ _ _ _ Bh2.out
  have hm6 : (w5.setCell ⟨w.heap.size + 1, 6, none⟩ (.int .i64 g1)).heap[w.heap.size + 1]? = some (.cells #[.int .i64 c.office, .int .i64 c.hour, .int .i64 c.inn, .int .i64 c.out, .int .i64 c.store, .string c.prev, .int .i64 g1, .int .i64 c.s] 25 (0, 0)) := (heap_setCell_same _ _ _ _ _ _ Bh2.out).trans rfl
  have d7 : (w5.setCell ⟨w.heap.size + 1, 6, none⟩ (.int .i64 g1)).cell? ⟨w.heap.size + 1, 7, none⟩ = some (.int .i64 c.s) := (cell_of_row _ _ _ _ _ _ hm6).trans rfl
  have z7 : (w5.setCell ⟨w.heap.size + 1, 6, none⟩ (.int .i64 g1)).frozen? ⟨w.heap.size + 1, 7, none⟩ = false := frozen_of_row _ _ _ _ _ hm6
  have hm7 : ((w5.setCell ⟨w.heap.size + 1, 6, none⟩ (.int .i64 g1)).setCell ⟨w.heap.size + 1, 7, none⟩ (.int .i64 g2)).heap[w.heap.size + 1]? = some (.cells #[.int .i64 c.office, .int .i64 c.hour, .int .i64 c.inn, .int .i64 c.out, .int .i64 c.store, .string c.prev, .int .i64 g1, .int .i64 g2] 25 (0, 0)) := (heap_setCell_same _ _ _ _ _ _ hm6).trans rfl
  have hr7 : ((w5.setCell ⟨w.heap.size + 1, 6, none⟩ (.int .i64 g1)).setCell ⟨w.heap.size + 1, 7, none⟩ (.int .i64 g2)).heap[w.heap.size + 1 + 1]? = some (.cells #[.int .i64 0, .int .i64 0, .int .i64 0, .int .i64 0, .int .i64 0, .string ⟨#[]⟩, .int .i64 0, .int .i64 0] 25 (0, 0)) := by
    rw [heap_setCell_other _ _ _ _ (by show w.heap.size + 1 + 1 ≠ w.heap.size + 1; omega), heap_setCell_other _ _ _ _ (by show w.heap.size + 1 + 1 ≠ w.heap.size + 1; omega)]
    exact Rh2.out
  have HM7 := Lib.hid hm7
  have HR7 := Lib.hid hr7
  clear hm6 hm7 hr7
  go_simp
  refine hK.out _ _ (key_set (key_set hHeld (Nat.ne_of_lt (Nat.lt_succ_self _)) (Nat.le_succ _)) (Nat.ne_of_lt (Nat.lt_succ_self _)) (Nat.le_succ _)) (fun hHeld => ?_)
  have HBf := Lib.hid hHeld.2.2.2
  clear hK K d6 d7 z6 z7
  try simp only [Act.put, List.setIfInBounds_toArray, List.set_cons_zero, List.set_cons_succ]
  refine wpAnyH_done (by kernel_rfl) ?_ _
  refine NoPanic.normal ?_
  generalize (w5.setCell ⟨w.heap.size + 1, 6, none⟩ (.int .i64 g1)).setCell ⟨w.heap.size + 1, 7, none⟩ (.int .i64 g2) = w7 at *
  go_wp2_with (first | (refine wpList_load_row rfl 25 _ rfl _ rfl 25 _ _ _ HM7.out hu rfl hinf ?_) | (refine wpList_store_row rfl 25 _ _ rfl (w.heap.size + 1 + 1) #[.int .i64 c.office, .int .i64 c.hour, .int .i64 c.inn, .int .i64 c.out, .int .i64 c.store, .string c.prev, .int .i64 g1, .int .i64 g2] rfl rfl 25 _ HR7.out hinf rfl (by simp [Value.oneCell']) ?_))
  refine bodyPost_ret (v := .agg #[.int .i64 c.office, .int .i64 c.hour, .int .i64 c.inn, .int .i64 c.out, .int .i64 c.store, .string c.prev, .int .i64 g1, .int .i64 g2]) ?_ rfl ⟨rfl, ?_⟩
  · exact results_cell_row rfl _ _ _ 25 _ (0, 0) _ rfl (setRow_heap _ _ _ _ _ _ HR7.out) hu rfl hinf
  · exact below_setRow HBf.out (by omega) _
set_option maxRecDepth 100000 in
set_option maxHeartbeats 2000000 in
theorem rsignP_any (x p : Int) (c : PV) (w : World) (hO : POk c) :
    Calls Tryz.prog 25 #[.agg #[.int .i64 x, .int .i64 p], .agg #[.int .i64 c.office, .int .i64 c.since, .int .i64 c.till, .int .i64 c.litres, .int .i64 c.e, .int .i64 c.s]] w fun e w' => e = .returned (.agg #[.int .i64 c.office, .int .i64 c.since, .int .i64 c.till, .int .i64 c.litres, .int .i64 (signR x p ctxP (coreP c)).1, .int .i64 (signR x p ctxP (coreP c)).2]) ∧ Below w.heap.size w w' := by
  obtain ⟨A, hA⟩ : ∃ A : ByteArray, A = ⟨(coreP c).toArray⟩ := ⟨_, rfl⟩
  obtain ⟨g1, hg1⟩ : ∃ g, g = (signR x p ctxP (coreP c)).1 := ⟨_, rfl⟩
  obtain ⟨g2, hg2⟩ : ∃ g, g = (signR x p ctxP (coreP c)).2 := ⟨_, rfl⟩
  have HCo : Hid (∀ w0, Calls Tryz.prog 55 #[.agg #[.int .i64 c.office, .int .i64 c.since, .int .i64 c.till, .int .i64 c.litres, .int .i64 c.e, .int .i64 c.s]] w0 fun e w' => e = .returned (.string A) ∧ Below w0.heap.size w0 w') := Lib.hid (fun w0 => by
    rw [hA]
    exact rcoreP_any c w0 hO)
  have HSg : Hid (∀ w0, Calls Tryz.prog 57 #[.agg #[.int .i64 x, .int .i64 p], .string ⟨#[112, 114, 111, 109, 105, 115, 101]⟩, .string A] w0 fun e w' => e = .returned (.agg #[.int .i64 g1, .int .i64 g2]) ∧ Below w0.heap.size w0 w') := Lib.hid (fun w0 => by
    have h := rsign_any x p ⟨#[112, 114, 111, 109, 105, 115, 101]⟩ A w0 (by decide) (coreP_size hO hA)
    have e : A.data.toList = coreP c := by rw [hA]
    rw [e] at h
    rw [hg1, hg2]
    exact h)
  have hu : Tryz.prog.underlying 27 = some (.struct (Tryz.prog.fieldsOf 27)) := by kernel_rfl
  have hinf : (Tryz.prog.info? 27).map (·.size) = some 6 := by kernel_rfl
  rw [← hg1, ← hg2]
  obtain ⟨r0, r1, r2, rb⟩ := three_rows (w := w) (A := .cells #[.int .i64 x, .int .i64 p] 29) (B := .cells #[.int .i64 c.office, .int .i64 c.since, .int .i64 c.till, .int .i64 c.litres, .int .i64 c.e, .int .i64 c.s] 27) (C := .cells #[.int .i64 0, .int .i64 0, .int .i64 0, .int .i64 0, .int .i64 0, .int .i64 0] 27)
  have HK0 := Lib.hid r0
  have HB0 := Lib.hid r1
  have HR0 := Lib.hid r2
  have HW0 := Lib.hid rb
  clear hA hg1 hg2 hO r0 r1 r2 rb
  go_enter Tryz.func25, Tryz.ntmps25
  go_upto_region 1 with fail
  generalize ((w.alloc (.cells #[.int .i64 x, .int .i64 p] 29)).alloc (.cells #[.int .i64 c.office, .int .i64 c.since, .int .i64 c.till, .int .i64 c.litres, .int .i64 c.e, .int .i64 c.s] 27)).alloc (.cells #[.int .i64 0, .int .i64 0, .int .i64 0, .int .i64 0, .int .i64 0, .int .i64 0] 27) = w3 at *
  have HS0 : Hid (w3.drew.heap[w.heap.size]? = some (.cells #[.int .i64 x, .int .i64 p] 29) ∧ w3.drew.cell? ⟨w.heap.size, 0, none⟩ = some (.int .i64 x) ∧ w3.drew.cell? ⟨w.heap.size, 1, none⟩ = some (.int .i64 p) ∧ Below w.heap.size w w3.drew) := Lib.hid ⟨HK0.out, (cell_of_row _ _ _ _ _ _ HK0.out).trans rfl, (cell_of_row _ _ _ _ _ _ HK0.out).trans rfl, HW0.out.drew⟩
  have Bh0 : Hid (w3.drew.heap[w.heap.size + 1]? = some (.cells #[.int .i64 c.office, .int .i64 c.since, .int .i64 c.till, .int .i64 c.litres, .int .i64 c.e, .int .i64 c.s] 27)) := Lib.hid HB0.out
  have Rh0 : Hid (w3.drew.heap[w.heap.size + 1 + 1]? = some (.cells #[.int .i64 0, .int .i64 0, .int .i64 0, .int .i64 0, .int .i64 0, .int .i64 0] 27)) := Lib.hid HR0.out
  clear HK0 HB0 HR0 HW0
  refine wp_region_noPanic ?_
  refine wp_region_held_drew (S := fun w' => w'.heap[w.heap.size]? = some (.cells #[.int .i64 x, .int .i64 p] 29) ∧ w'.cell? ⟨w.heap.size, 0, none⟩ = some (.int .i64 x) ∧ w'.cell? ⟨w.heap.size, 1, none⟩ = some (.int .i64 p) ∧ Below w.heap.size w w') (by kernel_rfl) HS0.out (fun hHeld => ?_)
  refine' wpAnyH_take (i := 0) (v := _) (by simp only [List.getElem?_toArray, List.getElem?_cons_zero]; exact rfl) (by kernel_rfl) (by kernel_rfl) (by kernel_rfl) (fun _ _ _ h => h) (Or.inl ⟨by rfl, ?y0x3⟩) hHeld ?r0x3
  case y0x3 => (intro w hSw; (try dsimp only at hSw); go_simp; try with_reducible rfl)
  try simp only [Act.put, List.setIfInBounds_toArray, List.set_cons_zero, List.set_cons_succ]
  refine wpAnyH_ready (rs := [1]) (by kernel_rfl) (by simp) ?_
  refine AllReadyH.cons (by simp only [List.getElem?_toArray, List.getElem?_cons_succ, List.getElem?_cons_zero]; exact rfl) (fun K hK => ?_) AllReadyH.nil
  have d0 : w3.drew.cell? ⟨w.heap.size + 1, 0, none⟩ = some (.int .i64 c.office) := (cell_of_row _ _ _ _ _ _ Bh0.out).trans rfl
  have d1 : w3.drew.cell? ⟨w.heap.size + 1, 1, none⟩ = some (.int .i64 c.since) := (cell_of_row _ _ _ _ _ _ Bh0.out).trans rfl
  have d2 : w3.drew.cell? ⟨w.heap.size + 1, 2, none⟩ = some (.int .i64 c.till) := (cell_of_row _ _ _ _ _ _ Bh0.out).trans rfl
  have d3 : w3.drew.cell? ⟨w.heap.size + 1, 3, none⟩ = some (.int .i64 c.litres) := (cell_of_row _ _ _ _ _ _ Bh0.out).trans rfl
  have d4 : w3.drew.cell? ⟨w.heap.size + 1, 4, none⟩ = some (.int .i64 c.e) := (cell_of_row _ _ _ _ _ _ Bh0.out).trans rfl
  have d5 : w3.drew.cell? ⟨w.heap.size + 1, 5, none⟩ = some (.int .i64 c.s) := (cell_of_row _ _ _ _ _ _ Bh0.out).trans rfl
  go_simp
  refine hK.out _ _ hHeld (fun hHeld => ?_)
  clear hK K d0 d1 d2 d3 d4 d5
  try simp only [Act.put, List.setIfInBounds_toArray, List.set_cons_zero, List.set_cons_succ]
  refine wpAnyH_ready (rs := [2]) (by kernel_rfl) (by simp) ?_
  refine AllReadyH.cons (by simp only [List.getElem?_toArray, List.getElem?_cons_succ, List.getElem?_cons_zero]; exact rfl) (fun K hK => ?_) AllReadyH.nil
  go_simp
  refine (HCo.out _).mono ?_
  rintro e w4 ⟨rfl, hb⟩
  have Bh1 : Hid (w4.heap[w.heap.size + 1]? = some (.cells #[.int .i64 c.office, .int .i64 c.since, .int .i64 c.till, .int .i64 c.litres, .int .i64 c.e, .int .i64 c.s] 27)) := Lib.hid (blk_below Bh0.out hb (blk_lt Bh0.out))
  have Rh1 : Hid (w4.heap[w.heap.size + 1 + 1]? = some (.cells #[.int .i64 0, .int .i64 0, .int .i64 0, .int .i64 0, .int .i64 0, .int .i64 0] 27)) := Lib.hid (blk_below Rh0.out hb (blk_lt Rh0.out))
  clear Bh0 Rh0
  refine hK.out _ _ (key_step hHeld hb) (fun hHeld => ?_)
  clear hK K hb
  try simp only [Act.put, List.setIfInBounds_toArray, List.set_cons_zero, List.set_cons_succ]
  refine wpAnyH_ready (rs := [3]) (by kernel_rfl) (by simp) ?_
  refine AllReadyH.cons (by simp only [List.getElem?_toArray, List.getElem?_cons_succ, List.getElem?_cons_zero]; exact rfl) (fun K hK => ?_) AllReadyH.nil
  go_simp
  refine (HSg.out _).mono ?_
  rintro e w5 ⟨rfl, hb⟩
  have Bh2 : Hid (w5.heap[w.heap.size + 1]? = some (.cells #[.int .i64 c.office, .int .i64 c.since, .int .i64 c.till, .int .i64 c.litres, .int .i64 c.e, .int .i64 c.s] 27)) := Lib.hid (blk_below Bh1.out hb (blk_lt Bh1.out))
  have Rh2 : Hid (w5.heap[w.heap.size + 1 + 1]? = some (.cells #[.int .i64 0, .int .i64 0, .int .i64 0, .int .i64 0, .int .i64 0, .int .i64 0] 27)) := Lib.hid (blk_below Rh1.out hb (blk_lt Rh1.out))
  clear Bh1 Rh1
  refine hK.out _ _ (key_step hHeld hb) (fun hHeld => ?_)
  clear hK K hb
  try simp only [Act.put, List.setIfInBounds_toArray, List.set_cons_zero, List.set_cons_succ]
  refine' wpAnyH_take (i := 4) (v := _) (by simp only [List.getElem?_toArray, List.getElem?_cons_succ, List.getElem?_cons_zero]; exact rfl) (by kernel_rfl) (by kernel_rfl) (by kernel_rfl) (fun _ _ _ h => h) (Or.inl ⟨by rfl, ?y4x4⟩) hHeld ?r4x4
  case y4x4 => (intro w hSw; (try dsimp only at hSw); go_simp; try with_reducible rfl)
  try simp only [Act.put, List.setIfInBounds_toArray, List.set_cons_zero, List.set_cons_succ]
  refine wpAnyH_ready (rs := [5]) (by kernel_rfl) (by simp) ?_
  refine AllReadyH.cons (by simp only [List.getElem?_toArray, List.getElem?_cons_succ, List.getElem?_cons_zero]; exact rfl) (fun K hK => ?_) AllReadyH.nil
  have d6 : w5.cell? ⟨w.heap.size + 1, 4, none⟩ = some (.int .i64 c.e) := (cell_of_row _ _ _ _ _ _ Bh2.out).trans rfl
  have z6 : w5.frozen? ⟨w.heap.size + 1, 4, none⟩ = false := frozen_of_row _ _ _ _ _ Bh2.out
  have hm6 : (w5.setCell ⟨w.heap.size + 1, 4, none⟩ (.int .i64 g1)).heap[w.heap.size + 1]? = some (.cells #[.int .i64 c.office, .int .i64 c.since, .int .i64 c.till, .int .i64 c.litres, .int .i64 g1, .int .i64 c.s] 27 (0, 0)) := (heap_setCell_same _ _ _ _ _ _ Bh2.out).trans rfl
  have d7 : (w5.setCell ⟨w.heap.size + 1, 4, none⟩ (.int .i64 g1)).cell? ⟨w.heap.size + 1, 5, none⟩ = some (.int .i64 c.s) := (cell_of_row _ _ _ _ _ _ hm6).trans rfl
  have z7 : (w5.setCell ⟨w.heap.size + 1, 4, none⟩ (.int .i64 g1)).frozen? ⟨w.heap.size + 1, 5, none⟩ = false := frozen_of_row _ _ _ _ _ hm6
  have hm7 : ((w5.setCell ⟨w.heap.size + 1, 4, none⟩ (.int .i64 g1)).setCell ⟨w.heap.size + 1, 5, none⟩ (.int .i64 g2)).heap[w.heap.size + 1]? = some (.cells #[.int .i64 c.office, .int .i64 c.since, .int .i64 c.till, .int .i64 c.litres, .int .i64 g1, .int .i64 g2] 27 (0, 0)) := (heap_setCell_same _ _ _ _ _ _ hm6).trans rfl
  have hr7 : ((w5.setCell ⟨w.heap.size + 1, 4, none⟩ (.int .i64 g1)).setCell ⟨w.heap.size + 1, 5, none⟩ (.int .i64 g2)).heap[w.heap.size + 1 + 1]? = some (.cells #[.int .i64 0, .int .i64 0, .int .i64 0, .int .i64 0, .int .i64 0, .int .i64 0] 27 (0, 0)) := by
    rw [heap_setCell_other _ _ _ _ (by show w.heap.size + 1 + 1 ≠ w.heap.size + 1; omega), heap_setCell_other _ _ _ _ (by show w.heap.size + 1 + 1 ≠ w.heap.size + 1; omega)]
    exact Rh2.out
  have HM7 := Lib.hid hm7
  have HR7 := Lib.hid hr7
  clear hm6 hm7 hr7
  go_simp
  refine hK.out _ _ (key_set (key_set hHeld (Nat.ne_of_lt (Nat.lt_succ_self _)) (Nat.le_succ _)) (Nat.ne_of_lt (Nat.lt_succ_self _)) (Nat.le_succ _)) (fun hHeld => ?_)
  have HBf := Lib.hid hHeld.2.2.2
  clear hK K d6 d7 z6 z7
  try simp only [Act.put, List.setIfInBounds_toArray, List.set_cons_zero, List.set_cons_succ]
  refine wpAnyH_done (by kernel_rfl) ?_ _
  refine NoPanic.normal ?_
  generalize (w5.setCell ⟨w.heap.size + 1, 4, none⟩ (.int .i64 g1)).setCell ⟨w.heap.size + 1, 5, none⟩ (.int .i64 g2) = w7 at *
  go_wp2_with (first | (refine wpList_load_row rfl 27 _ rfl _ rfl 27 _ _ _ HM7.out hu rfl hinf ?_) | (refine wpList_store_row rfl 27 _ _ rfl (w.heap.size + 1 + 1) #[.int .i64 c.office, .int .i64 c.since, .int .i64 c.till, .int .i64 c.litres, .int .i64 g1, .int .i64 g2] rfl rfl 27 _ HR7.out hinf rfl (by simp [Value.oneCell']) ?_))
  refine bodyPost_ret (v := .agg #[.int .i64 c.office, .int .i64 c.since, .int .i64 c.till, .int .i64 c.litres, .int .i64 g1, .int .i64 g2]) ?_ rfl ⟨rfl, ?_⟩
  · exact results_cell_row rfl _ _ _ 27 _ (0, 0) _ rfl (setRow_heap _ _ _ _ _ _ HR7.out) hu rfl hinf
  · exact below_setRow HBf.out (by omega) _
end Go.Proofs.YtgjklfddoechpaaGreatDoor
