/- claim.Core, promiseCore, Bytes, PromiseBytes, Digest, Verify, PromiseVerify. -/
import Derived.Outline
import Derived.Test.YtepidpegoihllaaGreatDoorCInts
namespace Go.Proofs.YtepidpegoihllaaGreatDoor
open Go.RowKit
theorem arrL (l : List UInt8) : (⟨l.toArray⟩ : ByteArray).data.toList = l := by simp
theorem cc_step {w cur w' : World} {k0 : Nat} {A0 : Obj} {v0 v1 v2 v3 v4 v5 : Value} (h : cur.heap[k0]? = some A0 ∧ cur.cell? ⟨k0, 0, none⟩ = some v0 ∧ cur.cell? ⟨k0, 1, none⟩ = some v1 ∧ cur.cell? ⟨k0, 2, none⟩ = some v2 ∧ cur.cell? ⟨k0, 3, none⟩ = some v3 ∧ cur.cell? ⟨k0, 4, none⟩ = some v4 ∧ cur.cell? ⟨k0, 5, none⟩ = some v5 ∧ Below w.heap.size w cur) (hb : Below cur.heap.size cur w') : w'.heap[k0]? = some A0 ∧ w'.cell? ⟨k0, 0, none⟩ = some v0 ∧ w'.cell? ⟨k0, 1, none⟩ = some v1 ∧ w'.cell? ⟨k0, 2, none⟩ = some v2 ∧ w'.cell? ⟨k0, 3, none⟩ = some v3 ∧ w'.cell? ⟨k0, 4, none⟩ = some v4 ∧ w'.cell? ⟨k0, 5, none⟩ = some v5 ∧ Below w.heap.size w w' := by
  obtain ⟨a0, c0, c1, c2, c3, c4, c5, d⟩ := h
  exact ⟨blk_below a0 hb (blk_lt a0), (hb.cell (p := ⟨_, 0, none⟩) (blk_lt a0)).trans c0, (hb.cell (p := ⟨_, 1, none⟩) (blk_lt a0)).trans c1, (hb.cell (p := ⟨_, 2, none⟩) (blk_lt a0)).trans c2, (hb.cell (p := ⟨_, 3, none⟩) (blk_lt a0)).trans c3, (hb.cell (p := ⟨_, 4, none⟩) (blk_lt a0)).trans c4, (hb.cell (p := ⟨_, 5, none⟩) (blk_lt a0)).trans c5, d.trans (hb.mono d.size)⟩
theorem cc_stepA {w cur : World} {k0 : Nat} {A0 : Obj} {v0 v1 v2 v3 v4 v5 : Value} {o : Obj} (h : cur.heap[k0]? = some A0 ∧ cur.cell? ⟨k0, 0, none⟩ = some v0 ∧ cur.cell? ⟨k0, 1, none⟩ = some v1 ∧ cur.cell? ⟨k0, 2, none⟩ = some v2 ∧ cur.cell? ⟨k0, 3, none⟩ = some v3 ∧ cur.cell? ⟨k0, 4, none⟩ = some v4 ∧ cur.cell? ⟨k0, 5, none⟩ = some v5 ∧ Below w.heap.size w cur) : (cur.alloc o).heap[k0]? = some A0 ∧ (cur.alloc o).cell? ⟨k0, 0, none⟩ = some v0 ∧ (cur.alloc o).cell? ⟨k0, 1, none⟩ = some v1 ∧ (cur.alloc o).cell? ⟨k0, 2, none⟩ = some v2 ∧ (cur.alloc o).cell? ⟨k0, 3, none⟩ = some v3 ∧ (cur.alloc o).cell? ⟨k0, 4, none⟩ = some v4 ∧ (cur.alloc o).cell? ⟨k0, 5, none⟩ = some v5 ∧ Below w.heap.size w (cur.alloc o) := cc_step h ((Below.refl _ _).alloc (Nat.le_refl _) o)
set_option maxRecDepth 100000 in
set_option maxHeartbeats 2000000 in
theorem coreC_any (c : CV) (w : World) (hO : COk c) (hp : c.prev.size ≤ 2000000) (hml : MLen w) :
    Calls Tryz.prog 43 #[.agg #[.int .i64 c.office, .int .i64 c.hour, .int .i64 c.inn, .int .i64 c.out, .int .i64 c.store, .string c.prev, .int .i64 c.e, .int .i64 c.s]] w fun e w' => e = .returned (.string ⟨(coreC c).toArray⟩) ∧ Below w.heap.size w w' := by
  have HM := Lib.hid hml
  obtain ⟨A, hA⟩ : ∃ A : ByteArray, A = ⟨([c.office, c.hour, c.inn, c.out, c.store].flatMap intL).toArray⟩ := ⟨_, rfl⟩
  obtain ⟨B, hB⟩ : ∃ B : ByteArray, B = ⟨(textL c.prev.data.toList).toArray⟩ := ⟨_, rfl⟩
  have hx : ∀ x ∈ [c.office, c.hour, c.inn, c.out, c.store], I64 x := by
    obtain ⟨h1, h2, h3, h4, h5, -⟩ := hO
    intro x hx
    simp only [List.mem_cons, List.not_mem_nil, or_false] at hx
    rcases hx with rfl | rfl | rfl | rfl | rfl <;> assumption
  have HI : Hid (∀ w0 bk, w0.heap[bk]? = some (.cells #[.int .i64 c.office, .int .i64 c.hour, .int .i64 c.inn, .int .i64 c.out, .int .i64 c.store] 3) → Calls Tryz.prog 48 #[.slice (some ⟨bk, 0, none⟩) 5 5] w0 fun e w' => e = .returned (.string A) ∧ Below w0.heap.size w0 w') := Lib.hid (fun w0 bk h => by
    rw [hA]
    exact ints_row bk [c.office, c.hour, c.inn, c.out, c.store] w0 hx h (show _ ≤ 100 by simp))
  have HT : Hid (∀ w0, MLen w0 → Calls Tryz.prog 41 #[.string c.prev] w0 fun e w' => e = .returned (.string B) ∧ Below w0.heap.size w0 w') := Lib.hid (fun w0 h => by
    rw [hB]
    exact text_any c.prev w0 (by omega) h)
  have HAB : Hid (A ++ B = ⟨(coreC c).toArray⟩) := Lib.hid (by
    rw [hA, hB, catL]
    simp [coreC, textC])
  have hAs : A.size ≤ 45 := by
    have h := ints_len _ hx
    have h2 : A.data.toList.length ≤ 45 := by rw [hA]; exact h
    exact h2
  have hBs : B.size ≤ 4000002 := by
    have h := textL_len c.prev.data.toList
    have h3 : c.prev.data.toList.length = c.prev.size := by simp
    have h2 : B.data.toList.length ≤ 4000002 := by rw [hB]; show (textL c.prev.data.toList).length ≤ 4000002; omega
    exact h2
  have hn : ¬ 9223372036854775807 < A.size + B.size := by omega
  clear hml hA hB hx hO hp
  go_enter Tryz.func43, Tryz.ntmps43
  go_upto_region 1 with fail
  have HB1 := Lib.hid ((Below.refl w.heap.size w).alloc (Nat.le_refl _) (.cells #[.int .i64 c.office, .int .i64 c.hour, .int .i64 c.inn, .int .i64 c.out, .int .i64 c.store, .string c.prev, .int .i64 c.e, .int .i64 c.s] 43))
  have Kh1 := Lib.hid (heap_alloc_new w (.cells #[.int .i64 c.office, .int .i64 c.hour, .int .i64 c.inn, .int .i64 c.out, .int .i64 c.store, .string c.prev, .int .i64 c.e, .int .i64 c.s] 43))
  generalize w.alloc (.cells #[.int .i64 c.office, .int .i64 c.hour, .int .i64 c.inn, .int .i64 c.out, .int .i64 c.store, .string c.prev, .int .i64 c.e, .int .i64 c.s] 43) = w1 at *
  have HS0 : Hid (w1.drew.heap[w.heap.size]? = some (.cells #[.int .i64 c.office, .int .i64 c.hour, .int .i64 c.inn, .int .i64 c.out, .int .i64 c.store, .string c.prev, .int .i64 c.e, .int .i64 c.s] 43) ∧ w1.drew.cell? ⟨w.heap.size, 0, none⟩ = some (.int .i64 c.office) ∧ w1.drew.cell? ⟨w.heap.size, 1, none⟩ = some (.int .i64 c.hour) ∧ w1.drew.cell? ⟨w.heap.size, 2, none⟩ = some (.int .i64 c.inn) ∧ w1.drew.cell? ⟨w.heap.size, 3, none⟩ = some (.int .i64 c.out) ∧ w1.drew.cell? ⟨w.heap.size, 4, none⟩ = some (.int .i64 c.store) ∧ w1.drew.cell? ⟨w.heap.size, 5, none⟩ = some (.string c.prev) ∧ Below w.heap.size w w1.drew) := Lib.hid ⟨Kh1.out, (cell_of_row _ _ _ _ _ _ Kh1.out).trans rfl, (cell_of_row _ _ _ _ _ _ Kh1.out).trans rfl, (cell_of_row _ _ _ _ _ _ Kh1.out).trans rfl, (cell_of_row _ _ _ _ _ _ Kh1.out).trans rfl, (cell_of_row _ _ _ _ _ _ Kh1.out).trans rfl, (cell_of_row _ _ _ _ _ _ Kh1.out).trans rfl, HB1.out.drew⟩
  clear Kh1 HB1
  refine wp_region_noPanic ?_
  refine wp_region_held_drew (S := fun w' => w'.heap[w.heap.size]? = some (.cells #[.int .i64 c.office, .int .i64 c.hour, .int .i64 c.inn, .int .i64 c.out, .int .i64 c.store, .string c.prev, .int .i64 c.e, .int .i64 c.s] 43) ∧ w'.cell? ⟨w.heap.size, 0, none⟩ = some (.int .i64 c.office) ∧ w'.cell? ⟨w.heap.size, 1, none⟩ = some (.int .i64 c.hour) ∧ w'.cell? ⟨w.heap.size, 2, none⟩ = some (.int .i64 c.inn) ∧ w'.cell? ⟨w.heap.size, 3, none⟩ = some (.int .i64 c.out) ∧ w'.cell? ⟨w.heap.size, 4, none⟩ = some (.int .i64 c.store) ∧ w'.cell? ⟨w.heap.size, 5, none⟩ = some (.string c.prev) ∧ Below w.heap.size w w') (by kernel_rfl) HS0.out (fun hHeld => ?_)
  refine' wpAnyH_take (i := 0) (v := _) (by simp only [List.getElem?_toArray, List.getElem?_cons_zero]; exact rfl) (by kernel_rfl) (by kernel_rfl) (by kernel_rfl) (fun _ _ _ h => h) (Or.inl ⟨by rfl, ?y0x1⟩) hHeld ?r0x1
  case y0x1 => (intro w hSw; (try dsimp only at hSw); go_simp; try with_reducible rfl)
  try simp only [Act.put, List.setIfInBounds_toArray, List.set_cons_zero, List.set_cons_succ]
  refine' wpAnyH_take (i := 1) (v := _) (by simp only [List.getElem?_toArray, List.getElem?_cons_succ, List.getElem?_cons_zero]; exact rfl) (by kernel_rfl) (by kernel_rfl) (by kernel_rfl) (fun _ _ _ h => h) (Or.inl ⟨by rfl, ?y1x2⟩) hHeld ?r1x2
  case y1x2 => (intro w hSw; (try dsimp only at hSw); go_simp; try with_reducible rfl)
  try simp only [Act.put, List.setIfInBounds_toArray, List.set_cons_zero, List.set_cons_succ]
  refine' wpAnyH_take (i := 2) (v := _) (by simp only [List.getElem?_toArray, List.getElem?_cons_succ, List.getElem?_cons_zero]; exact rfl) (by kernel_rfl) (by kernel_rfl) (by kernel_rfl) (fun _ _ _ h => h) (Or.inl ⟨by rfl, ?y2x3⟩) hHeld ?r2x3
  case y2x3 => (intro w hSw; (try dsimp only at hSw); go_simp; try with_reducible rfl)
  try simp only [Act.put, List.setIfInBounds_toArray, List.set_cons_zero, List.set_cons_succ]
  refine' wpAnyH_take (i := 3) (v := _) (by simp only [List.getElem?_toArray, List.getElem?_cons_succ, List.getElem?_cons_zero]; exact rfl) (by kernel_rfl) (by kernel_rfl) (by kernel_rfl) (fun _ _ _ h => h) (Or.inl ⟨by rfl, ?y3x4⟩) hHeld ?r3x4
  case y3x4 => (intro w hSw; (try dsimp only at hSw); go_simp; try with_reducible rfl)
  try simp only [Act.put, List.setIfInBounds_toArray, List.set_cons_zero, List.set_cons_succ]
  refine' wpAnyH_take (i := 4) (v := _) (by simp only [List.getElem?_toArray, List.getElem?_cons_succ, List.getElem?_cons_zero]; exact rfl) (by kernel_rfl) (by kernel_rfl) (by kernel_rfl) (fun _ _ _ h => h) (Or.inl ⟨by rfl, ?y4x5⟩) hHeld ?r4x5
  case y4x5 => (intro w hSw; (try dsimp only at hSw); go_simp; try with_reducible rfl)
  try simp only [Act.put, List.setIfInBounds_toArray, List.set_cons_zero, List.set_cons_succ]
  refine' wpAnyH_take (i := 5) (v := _) (by simp only [List.getElem?_toArray, List.getElem?_cons_succ, List.getElem?_cons_zero]; exact rfl) (by kernel_rfl) (by kernel_rfl) (by kernel_rfl) (fun _ _ _ h => h) (Or.inl ⟨by rfl, ?y5x6⟩) hHeld ?r5x6
  case y5x6 => (intro w hSw; (try dsimp only at hSw); go_simp; try with_reducible rfl)
  try simp only [Act.put, List.setIfInBounds_toArray, List.set_cons_zero, List.set_cons_succ]
  refine' wpAnyH_take (i := 6) (v := _) (by simp only [List.getElem?_toArray, List.getElem?_cons_succ, List.getElem?_cons_zero]; exact rfl) (by kernel_rfl) (by kernel_rfl) (by kernel_rfl) (fun _ _ _ h => h) (Or.inl ⟨by rfl, ?y6x7⟩) hHeld ?r6x7
  case y6x7 => (intro w hSw; (try dsimp only at hSw); go_simp; try with_reducible rfl)
  try simp only [Act.put, List.setIfInBounds_toArray, List.set_cons_zero, List.set_cons_succ]
  refine' wpAnyH_take (i := 7) (v := _) (by simp only [List.getElem?_toArray, List.getElem?_cons_succ, List.getElem?_cons_zero]; exact rfl) (by kernel_rfl) (by kernel_rfl) (by kernel_rfl) (fun _ _ _ h => h) (Or.inl ⟨by rfl, ?y7x8⟩) hHeld ?r7x8
  case y7x8 => (intro w hSw; (try dsimp only at hSw); go_simp; try with_reducible rfl)
  try simp only [Act.put, List.setIfInBounds_toArray, List.set_cons_zero, List.set_cons_succ]
  refine' wpAnyH_take (i := 8) (v := _) (by simp only [List.getElem?_toArray, List.getElem?_cons_succ, List.getElem?_cons_zero]; exact rfl) (by kernel_rfl) (by kernel_rfl) (by kernel_rfl) (fun _ _ _ h => h) (Or.inl ⟨by rfl, ?y8x9⟩) hHeld ?r8x9
  case y8x9 => (intro w hSw; (try dsimp only at hSw); go_simp; try with_reducible rfl)
  try simp only [Act.put, List.setIfInBounds_toArray, List.set_cons_zero, List.set_cons_succ]
  refine' wpAnyH_take (i := 9) (v := _) (by simp only [List.getElem?_toArray, List.getElem?_cons_succ, List.getElem?_cons_zero]; exact rfl) (by kernel_rfl) (by kernel_rfl) (by kernel_rfl) (fun _ _ _ h => h) (Or.inl ⟨by rfl, ?y9x10⟩) hHeld ?r9x10
  case y9x10 => (intro w hSw; (try dsimp only at hSw); go_simp; try with_reducible rfl)
  try simp only [Act.put, List.setIfInBounds_toArray, List.set_cons_zero, List.set_cons_succ]
  refine' wpAnyH_take (i := 12) (v := _) (by simp only [List.getElem?_toArray, List.getElem?_cons_succ, List.getElem?_cons_zero]; exact rfl) (by kernel_rfl) (by kernel_rfl) (by kernel_rfl) (fun _ _ _ h => h) (Or.inl ⟨by rfl, ?y12x11⟩) hHeld ?r12x11
  case y12x11 => (intro w hSw; (try dsimp only at hSw); go_simp; try with_reducible rfl)
  try simp only [Act.put, List.setIfInBounds_toArray, List.set_cons_zero, List.set_cons_succ]
  refine' wpAnyH_take (i := 13) (v := _) (by simp only [List.getElem?_toArray, List.getElem?_cons_succ, List.getElem?_cons_zero]; exact rfl) (by kernel_rfl) (by kernel_rfl) (by kernel_rfl) (fun _ _ _ h => h) (Or.inl ⟨by rfl, ?y13x12⟩) hHeld ?r13x12
  case y13x12 => (intro w hSw; (try dsimp only at hSw); go_simp; try with_reducible rfl)
  try simp only [Act.put, List.setIfInBounds_toArray, List.set_cons_zero, List.set_cons_succ]
  refine wpAnyH_ready (rs := [10]) (by kernel_rfl) (by simp) ?_
  refine AllReadyH.cons (by simp only [List.getElem?_toArray, List.getElem?_cons_succ, List.getElem?_cons_zero]; exact rfl) (fun K hK => ?_) AllReadyH.nil
  go_simp
  refine hK.out _ _ (cc_stepA hHeld) (fun hHeld => ?_)
  clear hK K
  try simp only [Act.put, List.setIfInBounds_toArray, List.set_cons_zero, List.set_cons_succ]
  refine wpAnyH_ready (rs := [11]) (by kernel_rfl) (by simp) ?_
  refine AllReadyH.cons (by simp only [List.getElem?_toArray, List.getElem?_cons_succ, List.getElem?_cons_zero]; exact rfl) (fun K hK => ?_) AllReadyH.nil
  go_simp
  refine (HI.out _ _ (by exact heap_alloc_new w1 _)).mono ?_
  rintro e w' ⟨rfl, hb⟩
  refine hK.out _ _ (cc_step hHeld hb) (fun hHeld => ?_)
  clear hK K hb
  try simp only [Act.put, List.setIfInBounds_toArray, List.set_cons_zero, List.set_cons_succ]
  refine wpAnyH_ready (rs := [14]) (by kernel_rfl) (by simp) ?_
  refine AllReadyH.cons (by simp only [List.getElem?_toArray, List.getElem?_cons_succ, List.getElem?_cons_zero]; exact rfl) (fun K hK => ?_) AllReadyH.nil
  go_simp
  refine (HT.out _ (HM.out.up hHeld.2.2.2.2.2.2.2)).mono ?_
  rintro e w' ⟨rfl, hb⟩
  refine hK.out _ _ (cc_step hHeld hb) (fun hHeld => ?_)
  clear hK K hb
  try simp only [Act.put, List.setIfInBounds_toArray, List.set_cons_zero, List.set_cons_succ]
  refine' wpAnyH_take (i := 15) (v := _) (by simp only [List.getElem?_toArray, List.getElem?_cons_succ, List.getElem?_cons_zero]; exact rfl) (by kernel_rfl) (by kernel_rfl) (by kernel_rfl) (fun _ _ _ h => h) (Or.inl ⟨by rfl, ?y15x13⟩) hHeld ?r15x13
  case y15x13 => (intro w hSw; (try dsimp only at hSw); go_simp; try with_reducible rfl)
  try simp only [Act.put, List.setIfInBounds_toArray, List.set_cons_zero, List.set_cons_succ]
  refine' wpAnyH_take (i := 16) (v := _) (by simp only [List.getElem?_toArray, List.getElem?_cons_succ, List.getElem?_cons_zero]; exact rfl) (by kernel_rfl) (by kernel_rfl) (by kernel_rfl) (fun _ _ _ h => h) (Or.inl ⟨by rfl, ?y16x14⟩) hHeld ?r16x14
  case y16x14 => (intro w hSw; (try dsimp only at hSw); go_simp; try with_reducible rfl)
  try simp only [Act.put, List.setIfInBounds_toArray, List.set_cons_zero, List.set_cons_succ]
  refine wpAnyH_done (by kernel_rfl) ?_ _
  refine NoPanic.normal ?_
  have HBf := Lib.hid hHeld.2.2.2.2.2.2.2
  go_wp2_with fail
  go_ret
  exact ⟨by rw [← HAB.out]; rfl, HBf.out⟩
set_option maxRecDepth 100000 in
set_option maxHeartbeats 2000000 in
theorem coreP_any (c : PV) (w : World) (hO : POk c) :
    Calls Tryz.prog 54 #[.agg #[.int .i64 c.office, .int .i64 c.since, .int .i64 c.till, .int .i64 c.litres, .int .i64 c.e, .int .i64 c.s]] w fun e w' => e = .returned (.string ⟨(coreP c).toArray⟩) ∧ Below w.heap.size w w' := by
  obtain ⟨A, hA⟩ : ∃ A : ByteArray, A = ⟨(coreP c).toArray⟩ := ⟨_, rfl⟩
  have hx : ∀ x ∈ [c.office, c.since, c.till, c.litres], I64 x := by
    obtain ⟨h1, h2, h3, h4, -⟩ := hO
    intro x hx
    simp only [List.mem_cons, List.not_mem_nil, or_false] at hx
    rcases hx with rfl | rfl | rfl | rfl <;> assumption
  have HI : Hid (∀ w0 bk, w0.heap[bk]? = some (.cells #[.int .i64 c.office, .int .i64 c.since, .int .i64 c.till, .int .i64 c.litres] 3) → Calls Tryz.prog 48 #[.slice (some ⟨bk, 0, none⟩) 4 4] w0 fun e w' => e = .returned (.string A) ∧ Below w0.heap.size w0 w') := Lib.hid (fun w0 bk h => by
    rw [hA]
    have h2 := ints_row bk [c.office, c.since, c.till, c.litres] w0 hx h (show _ ≤ 100 by simp)
    have e : [c.office, c.since, c.till, c.litres].flatMap intL = coreP c := by simp [coreP]
    rw [e] at h2
    exact h2)
  rw [← hA]
  clear hA hx hO
  go_enter Tryz.func54, Tryz.ntmps54
  go_upto_region 1 with fail
  have HB1 := Lib.hid ((Below.refl w.heap.size w).alloc (Nat.le_refl _) (.cells #[.int .i64 c.office, .int .i64 c.since, .int .i64 c.till, .int .i64 c.litres, .int .i64 c.e, .int .i64 c.s] 58))
  have Kh1 := Lib.hid (heap_alloc_new w (.cells #[.int .i64 c.office, .int .i64 c.since, .int .i64 c.till, .int .i64 c.litres, .int .i64 c.e, .int .i64 c.s] 58))
  generalize w.alloc (.cells #[.int .i64 c.office, .int .i64 c.since, .int .i64 c.till, .int .i64 c.litres, .int .i64 c.e, .int .i64 c.s] 58) = w1 at *
  have cK0 : w1.cell? ⟨w.heap.size, 0, none⟩ = some (.int .i64 c.office) := (cell_of_row _ _ _ _ _ _ Kh1.out).trans rfl
  have cK1 : w1.cell? ⟨w.heap.size, 1, none⟩ = some (.int .i64 c.since) := (cell_of_row _ _ _ _ _ _ Kh1.out).trans rfl
  have cK2 : w1.cell? ⟨w.heap.size, 2, none⟩ = some (.int .i64 c.till) := (cell_of_row _ _ _ _ _ _ Kh1.out).trans rfl
  have cK3 : w1.cell? ⟨w.heap.size, 3, none⟩ = some (.int .i64 c.litres) := (cell_of_row _ _ _ _ _ _ Kh1.out).trans rfl
  have cK4 : w1.cell? ⟨w.heap.size, 4, none⟩ = some (.int .i64 c.e) := (cell_of_row _ _ _ _ _ _ Kh1.out).trans rfl
  have cK5 : w1.cell? ⟨w.heap.size, 5, none⟩ = some (.int .i64 c.s) := (cell_of_row _ _ _ _ _ _ Kh1.out).trans rfl
  go_wp2_with fail
  refine (HI.out _ _ (heap_alloc_new _ _)).mono ?_
  rintro e w3 ⟨rfl, hb⟩
  have HBf := Lib.hid ((HB1.out.alloc HB1.out.size (.cells #[.int .i64 c.office, .int .i64 c.since, .int .i64 c.till, .int .i64 c.litres] 3)).trans (hb.mono (HB1.out.alloc HB1.out.size (.cells #[.int .i64 c.office, .int .i64 c.since, .int .i64 c.till, .int .i64 c.litres] 3)).size))
  clear hb
  go_wp2_with fail
  go_ret
  exact ⟨rfl, HBf.out⟩
theorem bc_step {w cur w' : World} {k0 : Nat} {A0 : Obj} {v0 v1 v2 v3 v4 v5 v6 v7 : Value} (h : cur.heap[k0]? = some A0 ∧ cur.cell? ⟨k0, 0, none⟩ = some v0 ∧ cur.cell? ⟨k0, 1, none⟩ = some v1 ∧ cur.cell? ⟨k0, 2, none⟩ = some v2 ∧ cur.cell? ⟨k0, 3, none⟩ = some v3 ∧ cur.cell? ⟨k0, 4, none⟩ = some v4 ∧ cur.cell? ⟨k0, 5, none⟩ = some v5 ∧ cur.cell? ⟨k0, 6, none⟩ = some v6 ∧ cur.cell? ⟨k0, 7, none⟩ = some v7 ∧ Below w.heap.size w cur) (hb : Below cur.heap.size cur w') : w'.heap[k0]? = some A0 ∧ w'.cell? ⟨k0, 0, none⟩ = some v0 ∧ w'.cell? ⟨k0, 1, none⟩ = some v1 ∧ w'.cell? ⟨k0, 2, none⟩ = some v2 ∧ w'.cell? ⟨k0, 3, none⟩ = some v3 ∧ w'.cell? ⟨k0, 4, none⟩ = some v4 ∧ w'.cell? ⟨k0, 5, none⟩ = some v5 ∧ w'.cell? ⟨k0, 6, none⟩ = some v6 ∧ w'.cell? ⟨k0, 7, none⟩ = some v7 ∧ Below w.heap.size w w' := by
  obtain ⟨a0, c0, c1, c2, c3, c4, c5, c6, c7, d⟩ := h
  exact ⟨blk_below a0 hb (blk_lt a0), (hb.cell (p := ⟨_, 0, none⟩) (blk_lt a0)).trans c0, (hb.cell (p := ⟨_, 1, none⟩) (blk_lt a0)).trans c1, (hb.cell (p := ⟨_, 2, none⟩) (blk_lt a0)).trans c2, (hb.cell (p := ⟨_, 3, none⟩) (blk_lt a0)).trans c3, (hb.cell (p := ⟨_, 4, none⟩) (blk_lt a0)).trans c4, (hb.cell (p := ⟨_, 5, none⟩) (blk_lt a0)).trans c5, (hb.cell (p := ⟨_, 6, none⟩) (blk_lt a0)).trans c6, (hb.cell (p := ⟨_, 7, none⟩) (blk_lt a0)).trans c7, d.trans (hb.mono d.size)⟩
theorem bc_stepN {w cur : World} {k0 : Nat} {A0 : Obj} {v0 v1 v2 v3 v4 v5 v6 v7 : Value} (h : cur.heap[k0]? = some A0 ∧ cur.cell? ⟨k0, 0, none⟩ = some v0 ∧ cur.cell? ⟨k0, 1, none⟩ = some v1 ∧ cur.cell? ⟨k0, 2, none⟩ = some v2 ∧ cur.cell? ⟨k0, 3, none⟩ = some v3 ∧ cur.cell? ⟨k0, 4, none⟩ = some v4 ∧ cur.cell? ⟨k0, 5, none⟩ = some v5 ∧ cur.cell? ⟨k0, 6, none⟩ = some v6 ∧ cur.cell? ⟨k0, 7, none⟩ = some v7 ∧ Below w.heap.size w cur) (n : Nat) : (cur.drewN n).heap[k0]? = some A0 ∧ (cur.drewN n).cell? ⟨k0, 0, none⟩ = some v0 ∧ (cur.drewN n).cell? ⟨k0, 1, none⟩ = some v1 ∧ (cur.drewN n).cell? ⟨k0, 2, none⟩ = some v2 ∧ (cur.drewN n).cell? ⟨k0, 3, none⟩ = some v3 ∧ (cur.drewN n).cell? ⟨k0, 4, none⟩ = some v4 ∧ (cur.drewN n).cell? ⟨k0, 5, none⟩ = some v5 ∧ (cur.drewN n).cell? ⟨k0, 6, none⟩ = some v6 ∧ (cur.drewN n).cell? ⟨k0, 7, none⟩ = some v7 ∧ Below w.heap.size w (cur.drewN n) := by
  obtain ⟨a0, c0, c1, c2, c3, c4, c5, c6, c7, d⟩ := h
  exact ⟨a0, c0, c1, c2, c3, c4, c5, c6, c7, below_drewN d⟩
theorem bc_stepA {w cur : World} {k0 : Nat} {A0 : Obj} {v0 v1 v2 v3 v4 v5 v6 v7 : Value} {o : Obj} (h : cur.heap[k0]? = some A0 ∧ cur.cell? ⟨k0, 0, none⟩ = some v0 ∧ cur.cell? ⟨k0, 1, none⟩ = some v1 ∧ cur.cell? ⟨k0, 2, none⟩ = some v2 ∧ cur.cell? ⟨k0, 3, none⟩ = some v3 ∧ cur.cell? ⟨k0, 4, none⟩ = some v4 ∧ cur.cell? ⟨k0, 5, none⟩ = some v5 ∧ cur.cell? ⟨k0, 6, none⟩ = some v6 ∧ cur.cell? ⟨k0, 7, none⟩ = some v7 ∧ Below w.heap.size w cur) : (cur.alloc o).heap[k0]? = some A0 ∧ (cur.alloc o).cell? ⟨k0, 0, none⟩ = some v0 ∧ (cur.alloc o).cell? ⟨k0, 1, none⟩ = some v1 ∧ (cur.alloc o).cell? ⟨k0, 2, none⟩ = some v2 ∧ (cur.alloc o).cell? ⟨k0, 3, none⟩ = some v3 ∧ (cur.alloc o).cell? ⟨k0, 4, none⟩ = some v4 ∧ (cur.alloc o).cell? ⟨k0, 5, none⟩ = some v5 ∧ (cur.alloc o).cell? ⟨k0, 6, none⟩ = some v6 ∧ (cur.alloc o).cell? ⟨k0, 7, none⟩ = some v7 ∧ Below w.heap.size w (cur.alloc o) := bc_step h ((Below.refl _ _).alloc (Nat.le_refl _) o)
theorem bc_stepU {w cur : World} {k0 : Nat} {A0 : Obj} {v0 v1 v2 v3 v4 v5 v6 v7 : Value} {n : Nat} (h : (cur.drewN n).heap[k0]? = some A0 ∧ (cur.drewN n).cell? ⟨k0, 0, none⟩ = some v0 ∧ (cur.drewN n).cell? ⟨k0, 1, none⟩ = some v1 ∧ (cur.drewN n).cell? ⟨k0, 2, none⟩ = some v2 ∧ (cur.drewN n).cell? ⟨k0, 3, none⟩ = some v3 ∧ (cur.drewN n).cell? ⟨k0, 4, none⟩ = some v4 ∧ (cur.drewN n).cell? ⟨k0, 5, none⟩ = some v5 ∧ (cur.drewN n).cell? ⟨k0, 6, none⟩ = some v6 ∧ (cur.drewN n).cell? ⟨k0, 7, none⟩ = some v7 ∧ Below w.heap.size w (cur.drewN n)) : cur.heap[k0]? = some A0 ∧ cur.cell? ⟨k0, 0, none⟩ = some v0 ∧ cur.cell? ⟨k0, 1, none⟩ = some v1 ∧ cur.cell? ⟨k0, 2, none⟩ = some v2 ∧ cur.cell? ⟨k0, 3, none⟩ = some v3 ∧ cur.cell? ⟨k0, 4, none⟩ = some v4 ∧ cur.cell? ⟨k0, 5, none⟩ = some v5 ∧ cur.cell? ⟨k0, 6, none⟩ = some v6 ∧ cur.cell? ⟨k0, 7, none⟩ = some v7 ∧ Below w.heap.size w cur := by
  obtain ⟨a0, c0, c1, c2, c3, c4, c5, c6, c7, d⟩ := h
  exact ⟨a0, c0, c1, c2, c3, c4, c5, c6, c7, ⟨d.os, d.tape, d.output, d.size, d.block⟩⟩
set_option maxRecDepth 100000 in
set_option maxHeartbeats 2000000 in
theorem bytesC_any (c : CV) (w : World) (hO : COk c) (hp : c.prev.size ≤ 1000) (hml : MLen w) :
    Calls Tryz.prog 13 #[.agg #[.int .i64 c.office, .int .i64 c.hour, .int .i64 c.inn, .int .i64 c.out, .int .i64 c.store, .string c.prev, .int .i64 c.e, .int .i64 c.s]] w fun e w' => e = .returned (.string ⟨(bytesC c).toArray⟩) ∧ Below w.heap.size w w' := by
  have HM := Lib.hid hml
  obtain ⟨A, hA⟩ : ∃ A : ByteArray, A = ⟨(coreC c).toArray⟩ := ⟨_, rfl⟩
  obtain ⟨B, hB⟩ : ∃ B : ByteArray, B = ⟨([c.e, c.s].flatMap intL).toArray⟩ := ⟨_, rfl⟩
  have hx : ∀ x ∈ [c.e, c.s], I64 x := by
    obtain ⟨-, -, -, -, -, h6, h7⟩ := hO
    intro x hx
    simp only [List.mem_cons, List.not_mem_nil, or_false] at hx
    rcases hx with rfl | rfl <;> assumption
  have HI : Hid (∀ w0 bk, w0.heap[bk]? = some (.cells #[.int .i64 c.e, .int .i64 c.s] 3) → Calls Tryz.prog 48 #[.slice (some ⟨bk, 0, none⟩) 2 2] w0 fun e w' => e = .returned (.string B) ∧ Below w0.heap.size w0 w') := Lib.hid (fun w0 bk h => by
    rw [hB]
    exact ints_row bk [c.e, c.s] w0 hx h (show _ ≤ 100 by simp))
  have HCo : Hid (∀ w0, MLen w0 → Calls Tryz.prog 43 #[.agg #[.int .i64 c.office, .int .i64 c.hour, .int .i64 c.inn, .int .i64 c.out, .int .i64 c.store, .string c.prev, .int .i64 c.e, .int .i64 c.s]] w0 fun e w' => e = .returned (.string A) ∧ Below w0.heap.size w0 w') := Lib.hid (fun w0 h => by
    rw [hA]
    exact coreC_any c w0 hO (by omega) h)
  have HAB : Hid (A ++ B = ⟨(bytesC c).toArray⟩) := Lib.hid (by
    rw [hA, hB, catL]
    simp [bytesC])
  have hAs : A.size ≤ 2047 := by
    have h := coreC_len hO hp
    have h2 : A.data.toList.length ≤ 2047 := by rw [hA]; exact h
    exact h2
  have hBs : B.size ≤ 18 := by
    have h := ints_len _ hx
    have h2 : B.data.toList.length ≤ 18 := by rw [hB]; exact h
    exact h2
  have hn : ¬ 9223372036854775807 < A.size + B.size := by omega
  clear hml hA hB hx hO hp
  go_enter Tryz.func13, Tryz.ntmps13
  go_upto_region 1 with fail
  have HB1 := Lib.hid ((Below.refl w.heap.size w).alloc (Nat.le_refl _) (.cells #[.int .i64 c.office, .int .i64 c.hour, .int .i64 c.inn, .int .i64 c.out, .int .i64 c.store, .string c.prev, .int .i64 c.e, .int .i64 c.s] 43))
  have Kh1 := Lib.hid (heap_alloc_new w (.cells #[.int .i64 c.office, .int .i64 c.hour, .int .i64 c.inn, .int .i64 c.out, .int .i64 c.store, .string c.prev, .int .i64 c.e, .int .i64 c.s] 43))
  generalize w.alloc (.cells #[.int .i64 c.office, .int .i64 c.hour, .int .i64 c.inn, .int .i64 c.out, .int .i64 c.store, .string c.prev, .int .i64 c.e, .int .i64 c.s] 43) = w1 at *
  have HS0 : Hid (w1.drew.heap[w.heap.size]? = some (.cells #[.int .i64 c.office, .int .i64 c.hour, .int .i64 c.inn, .int .i64 c.out, .int .i64 c.store, .string c.prev, .int .i64 c.e, .int .i64 c.s] 43) ∧ w1.drew.cell? ⟨w.heap.size, 0, none⟩ = some (.int .i64 c.office) ∧ w1.drew.cell? ⟨w.heap.size, 1, none⟩ = some (.int .i64 c.hour) ∧ w1.drew.cell? ⟨w.heap.size, 2, none⟩ = some (.int .i64 c.inn) ∧ w1.drew.cell? ⟨w.heap.size, 3, none⟩ = some (.int .i64 c.out) ∧ w1.drew.cell? ⟨w.heap.size, 4, none⟩ = some (.int .i64 c.store) ∧ w1.drew.cell? ⟨w.heap.size, 5, none⟩ = some (.string c.prev) ∧ w1.drew.cell? ⟨w.heap.size, 6, none⟩ = some (.int .i64 c.e) ∧ w1.drew.cell? ⟨w.heap.size, 7, none⟩ = some (.int .i64 c.s) ∧ Below w.heap.size w w1.drew) := Lib.hid ⟨Kh1.out, (cell_of_row _ _ _ _ _ _ Kh1.out).trans rfl, (cell_of_row _ _ _ _ _ _ Kh1.out).trans rfl, (cell_of_row _ _ _ _ _ _ Kh1.out).trans rfl, (cell_of_row _ _ _ _ _ _ Kh1.out).trans rfl, (cell_of_row _ _ _ _ _ _ Kh1.out).trans rfl, (cell_of_row _ _ _ _ _ _ Kh1.out).trans rfl, (cell_of_row _ _ _ _ _ _ Kh1.out).trans rfl, (cell_of_row _ _ _ _ _ _ Kh1.out).trans rfl, HB1.out.drew⟩
  clear Kh1 HB1
  refine wp_region_noPanic ?_
  refine wp_region_held_drew (S := fun w' => w'.heap[w.heap.size]? = some (.cells #[.int .i64 c.office, .int .i64 c.hour, .int .i64 c.inn, .int .i64 c.out, .int .i64 c.store, .string c.prev, .int .i64 c.e, .int .i64 c.s] 43) ∧ w'.cell? ⟨w.heap.size, 0, none⟩ = some (.int .i64 c.office) ∧ w'.cell? ⟨w.heap.size, 1, none⟩ = some (.int .i64 c.hour) ∧ w'.cell? ⟨w.heap.size, 2, none⟩ = some (.int .i64 c.inn) ∧ w'.cell? ⟨w.heap.size, 3, none⟩ = some (.int .i64 c.out) ∧ w'.cell? ⟨w.heap.size, 4, none⟩ = some (.int .i64 c.store) ∧ w'.cell? ⟨w.heap.size, 5, none⟩ = some (.string c.prev) ∧ w'.cell? ⟨w.heap.size, 6, none⟩ = some (.int .i64 c.e) ∧ w'.cell? ⟨w.heap.size, 7, none⟩ = some (.int .i64 c.s) ∧ Below w.heap.size w w') (by kernel_rfl) HS0.out (fun hHeld => ?_)
  refine' wpAnyH_take (i := 0) (v := _) (by simp only [List.getElem?_toArray, List.getElem?_cons_zero]; exact rfl) (by kernel_rfl) (by kernel_rfl) (by kernel_rfl) (fun _ _ _ h => h) (Or.inl ⟨by rfl, ?y0x15⟩) hHeld ?r0x15
  case y0x15 => (intro w hSw; (try dsimp only at hSw); go_simp; try with_reducible rfl)
  try simp only [Act.put, List.setIfInBounds_toArray, List.set_cons_zero, List.set_cons_succ]
  refine' wpAnyH_take (i := 2) (v := _) (by simp only [List.getElem?_toArray, List.getElem?_cons_succ, List.getElem?_cons_zero]; exact rfl) (by kernel_rfl) (by kernel_rfl) (by kernel_rfl) (fun _ _ _ h => h) (Or.inl ⟨by rfl, ?y2x16⟩) hHeld ?r2x16
  case y2x16 => (intro w hSw; (try dsimp only at hSw); go_simp; try with_reducible rfl)
  try simp only [Act.put, List.setIfInBounds_toArray, List.set_cons_zero, List.set_cons_succ]
  refine' wpAnyH_take (i := 3) (v := _) (by simp only [List.getElem?_toArray, List.getElem?_cons_succ, List.getElem?_cons_zero]; exact rfl) (by kernel_rfl) (by kernel_rfl) (by kernel_rfl) (fun _ _ _ h => h) (Or.inl ⟨by rfl, ?y3x17⟩) hHeld ?r3x17
  case y3x17 => (intro w hSw; (try dsimp only at hSw); go_simp; try with_reducible rfl)
  try simp only [Act.put, List.setIfInBounds_toArray, List.set_cons_zero, List.set_cons_succ]
  refine' wpAnyH_take (i := 4) (v := _) (by simp only [List.getElem?_toArray, List.getElem?_cons_succ, List.getElem?_cons_zero]; exact rfl) (by kernel_rfl) (by kernel_rfl) (by kernel_rfl) (fun _ _ _ h => h) (Or.inl ⟨by rfl, ?y4x18⟩) hHeld ?r4x18
  case y4x18 => (intro w hSw; (try dsimp only at hSw); go_simp; try with_reducible rfl)
  try simp only [Act.put, List.setIfInBounds_toArray, List.set_cons_zero, List.set_cons_succ]
  refine' wpAnyH_take (i := 5) (v := _) (by simp only [List.getElem?_toArray, List.getElem?_cons_succ, List.getElem?_cons_zero]; exact rfl) (by kernel_rfl) (by kernel_rfl) (by kernel_rfl) (fun _ _ _ h => h) (Or.inl ⟨by rfl, ?y5x19⟩) hHeld ?r5x19
  case y5x19 => (intro w hSw; (try dsimp only at hSw); go_simp; try with_reducible rfl)
  try simp only [Act.put, List.setIfInBounds_toArray, List.set_cons_zero, List.set_cons_succ]
  refine' wpAnyH_take (i := 6) (v := _) (by simp only [List.getElem?_toArray, List.getElem?_cons_succ, List.getElem?_cons_zero]; exact rfl) (by kernel_rfl) (by kernel_rfl) (by kernel_rfl) (fun _ _ _ h => h) (Or.inl ⟨by rfl, ?y6x20⟩) hHeld ?r6x20
  case y6x20 => (intro w hSw; (try dsimp only at hSw); go_simp; try with_reducible rfl)
  try simp only [Act.put, List.setIfInBounds_toArray, List.set_cons_zero, List.set_cons_succ]
  refine' wpAnyH_take (i := 7) (v := _) (by simp only [List.getElem?_toArray, List.getElem?_cons_succ, List.getElem?_cons_zero]; exact rfl) (by kernel_rfl) (by kernel_rfl) (by kernel_rfl) (fun _ _ _ h => h) (Or.inl ⟨by rfl, ?y7x21⟩) hHeld ?r7x21
  case y7x21 => (intro w hSw; (try dsimp only at hSw); go_simp; try with_reducible rfl)
  try simp only [Act.put, List.setIfInBounds_toArray, List.set_cons_zero, List.set_cons_succ]
  refine wpAnyH_ready (rs := [1, 8]) (by kernel_rfl) (by simp) ?_
  refine AllReadyH.cons (by simp only [List.getElem?_toArray, List.getElem?_cons_succ, List.getElem?_cons_zero]; exact rfl) (fun K hK => ?_) (AllReadyH.cons (by simp only [List.getElem?_toArray, List.getElem?_cons_succ, List.getElem?_cons_zero]; exact rfl) (fun K hK => ?_) AllReadyH.nil)
  · go_simp
    refine (HCo.out _ (HM.out.up hHeld.2.2.2.2.2.2.2.2.2)).mono ?_
    rintro e w' ⟨rfl, hb⟩
    refine hK.out _ _ (bc_step hHeld hb) (fun hHeld => ?_)
    clear hK K hb
    try simp only [Act.put, List.setIfInBounds_toArray, List.set_cons_zero, List.set_cons_succ]
    refine wpAnyH_ready (rs := [8]) (by kernel_rfl) (by simp) ?_
    refine AllReadyH.cons (by simp only [List.getElem?_toArray, List.getElem?_cons_succ, List.getElem?_cons_zero]; exact rfl) (fun K hK => ?_) AllReadyH.nil
    go_simp
    refine hK.out _ _ (bc_stepA hHeld) (fun hHeld => ?_)
    clear hK K
    try simp only [Act.put, List.setIfInBounds_toArray, List.set_cons_zero, List.set_cons_succ]
    refine wpAnyH_ready (rs := [9]) (by kernel_rfl) (by simp) ?_
    refine AllReadyH.cons (by simp only [List.getElem?_toArray, List.getElem?_cons_succ, List.getElem?_cons_zero]; exact rfl) (fun K hK => ?_) AllReadyH.nil
    go_simp
    refine (HI.out _ _ (by exact heap_alloc_new w' _)).mono ?_
    rintro e w' ⟨rfl, hb⟩
    refine hK.out _ _ (bc_step hHeld hb) (fun hHeld => ?_)
    clear hK K hb
    try simp only [Act.put, List.setIfInBounds_toArray, List.set_cons_zero, List.set_cons_succ]
    refine' wpAnyH_take (i := 10) (v := _) (by simp only [List.getElem?_toArray, List.getElem?_cons_succ, List.getElem?_cons_zero]; exact rfl) (by kernel_rfl) (by kernel_rfl) (by kernel_rfl) (fun _ _ _ h => h) (Or.inl ⟨by rfl, ?y10x22⟩) hHeld ?r10x22
    case y10x22 => (intro w hSw; (try dsimp only at hSw); go_simp; try with_reducible rfl)
    try simp only [Act.put, List.setIfInBounds_toArray, List.set_cons_zero, List.set_cons_succ]
    refine' wpAnyH_take (i := 11) (v := _) (by simp only [List.getElem?_toArray, List.getElem?_cons_succ, List.getElem?_cons_zero]; exact rfl) (by kernel_rfl) (by kernel_rfl) (by kernel_rfl) (fun _ _ _ h => h) (Or.inl ⟨by rfl, ?y11x23⟩) hHeld ?r11x23
    case y11x23 => (intro w hSw; (try dsimp only at hSw); go_simp; try with_reducible rfl)
    try simp only [Act.put, List.setIfInBounds_toArray, List.set_cons_zero, List.set_cons_succ]
    refine wpAnyH_done (by kernel_rfl) ?_ _
    refine NoPanic.normal ?_
    have HBf := Lib.hid hHeld.2.2.2.2.2.2.2.2.2
    go_wp2_with fail
    go_ret
    exact ⟨by rw [← HAB.out]; rfl, HBf.out⟩
  · go_simp
    refine hK.out _ _ (bc_stepA hHeld) (fun hHeld => ?_)
    clear hK K
    try simp only [Act.put, List.setIfInBounds_toArray, List.set_cons_zero, List.set_cons_succ]
    refine wpAnyH_ready (rs := [1]) (by kernel_rfl) (by simp) ?_
    refine AllReadyH.cons (by simp only [List.getElem?_toArray, List.getElem?_cons_succ, List.getElem?_cons_zero]; exact rfl) (fun K hK => ?_) AllReadyH.nil
    go_simp
    refine (HCo.out _ (HM.out.up hHeld.2.2.2.2.2.2.2.2.2)).mono ?_
    rintro e w' ⟨rfl, hb⟩
    have HRw : Hid (w'.heap[w1.heap.size]? = some (.cells #[.int .i64 c.e, .int .i64 c.s] 3)) := Lib.hid (blk_below (by exact heap_alloc_new w1 _) hb (by exact blk_lt (heap_alloc_new w1 _)))
    refine hK.out _ _ (bc_step hHeld hb) (fun hHeld => ?_)
    clear hK K hb
    try simp only [Act.put, List.setIfInBounds_toArray, List.set_cons_zero, List.set_cons_succ]
    refine wpAnyH_ready (rs := [9]) (by kernel_rfl) (by simp) ?_
    refine AllReadyH.cons (by simp only [List.getElem?_toArray, List.getElem?_cons_succ, List.getElem?_cons_zero]; exact rfl) (fun K hK => ?_) AllReadyH.nil
    go_simp
    refine (HI.out _ _ HRw.out).mono ?_
    rintro e w' ⟨rfl, hb⟩
    refine hK.out _ _ (bc_step hHeld hb) (fun hHeld => ?_)
    clear hK K hb
    try simp only [Act.put, List.setIfInBounds_toArray, List.set_cons_zero, List.set_cons_succ]
    refine' wpAnyH_take (i := 10) (v := _) (by simp only [List.getElem?_toArray, List.getElem?_cons_succ, List.getElem?_cons_zero]; exact rfl) (by kernel_rfl) (by kernel_rfl) (by kernel_rfl) (fun _ _ _ h => h) (Or.inl ⟨by rfl, ?y10x24⟩) hHeld ?r10x24
    case y10x24 => (intro w hSw; (try dsimp only at hSw); go_simp; try with_reducible rfl)
    try simp only [Act.put, List.setIfInBounds_toArray, List.set_cons_zero, List.set_cons_succ]
    refine' wpAnyH_take (i := 11) (v := _) (by simp only [List.getElem?_toArray, List.getElem?_cons_succ, List.getElem?_cons_zero]; exact rfl) (by kernel_rfl) (by kernel_rfl) (by kernel_rfl) (fun _ _ _ h => h) (Or.inl ⟨by rfl, ?y11x25⟩) hHeld ?r11x25
    case y11x25 => (intro w hSw; (try dsimp only at hSw); go_simp; try with_reducible rfl)
    try simp only [Act.put, List.setIfInBounds_toArray, List.set_cons_zero, List.set_cons_succ]
    refine wpAnyH_done (by kernel_rfl) ?_ _
    refine NoPanic.normal ?_
    have HBf := Lib.hid hHeld.2.2.2.2.2.2.2.2.2
    go_wp2_with fail
    go_ret
    exact ⟨by rw [← HAB.out]; rfl, HBf.out⟩
def ctxC : List UInt8 := [99, 108, 97, 105, 109]
/-- what Verify answers -/
def VouchedC (p : Int) (c : CV) : Prop := VerOk p c.e c.s ctxC (coreC c)
instance (p : Int) (c : CV) : Decidable (VouchedC p c) := by
  unfold VouchedC
  infer_instance
set_option maxRecDepth 100000 in
set_option maxHeartbeats 2000000 in
theorem verifyC_any (p : Int) (c : CV) (w : World) (hpi : I64 p) (hO : COk c) (hp : c.prev.size ≤ 2000000) (hg : Glob w) (hml : MLen w) :
    Calls Tryz.prog 19 #[.int .i64 p, .agg #[.int .i64 c.office, .int .i64 c.hour, .int .i64 c.inn, .int .i64 c.out, .int .i64 c.store, .string c.prev, .int .i64 c.e, .int .i64 c.s]] w fun e w' => e = .returned (.bool (decide (VouchedC p c))) ∧ Below w.heap.size w w' := by
  have HM := Lib.hid hml
  have HG := Lib.hid hg
  obtain ⟨A, hA⟩ : ∃ A : ByteArray, A = ⟨(coreC c).toArray⟩ := ⟨_, rfl⟩
  have HCo : Hid (∀ w0, MLen w0 → Calls Tryz.prog 43 #[.agg #[.int .i64 c.office, .int .i64 c.hour, .int .i64 c.inn, .int .i64 c.out, .int .i64 c.store, .string c.prev, .int .i64 c.e, .int .i64 c.s]] w0 fun e w' => e = .returned (.string A) ∧ Below w0.heap.size w0 w') := Lib.hid (fun w0 h => by
    rw [hA]
    exact coreC_any c w0 hO (by omega) h)
  have hAs : A.size ≤ 10000000 := by
    have l2 := textL_len c.prev.data.toList
    have l3 : c.prev.data.toList.length = c.prev.size := by simp
    have h : (coreC c).length ≤ 4000100 := by
      obtain ⟨h1, h2, h3, h4, h5, -⟩ := hO
      have := intL_len h1; have := intL_len h2; have := intL_len h3; have := intL_len h4; have := intL_len h5
      simp [coreC, textC]
      omega
    have h2 : A.data.toList.length ≤ 10000000 := by rw [hA]; show (coreC c).length ≤ 10000000; omega
    exact h2
  obtain ⟨b, hb⟩ : ∃ b, b = decide (VouchedC p c) := ⟨_, rfl⟩
  have HV : Hid (∀ w0, Glob w0 → MLen w0 → Calls Tryz.prog 56 #[.int .i64 p, .string ⟨#[99, 108, 97, 105, 109]⟩, .string A, .agg #[.int .i64 c.e, .int .i64 c.s]] w0 fun e w' => e = .returned (.bool b) ∧ Below w0.heap.size w0 w') := Lib.hid (fun w0 h1 h2 => by
    have h := verify_any p c.e c.s ⟨#[99, 108, 97, 105, 109]⟩ A w0 hpi (by decide) hAs h1 h2
    have e : A.data.toList = coreC c := by rw [hA]
    rw [e] at h
    rw [hb]
    exact h)
  rw [← hb]
  clear hml hg hA hAs hb hO hpi hp
  go_enter Tryz.func19, Tryz.ntmps19
  go_upto_region 1 with fail
  have HB1 := Lib.hid ((Below.refl w.heap.size w).alloc (Nat.le_refl _) (.cells #[.int .i64 c.office, .int .i64 c.hour, .int .i64 c.inn, .int .i64 c.out, .int .i64 c.store, .string c.prev, .int .i64 c.e, .int .i64 c.s] 43))
  have Kh1 := Lib.hid (heap_alloc_new w (.cells #[.int .i64 c.office, .int .i64 c.hour, .int .i64 c.inn, .int .i64 c.out, .int .i64 c.store, .string c.prev, .int .i64 c.e, .int .i64 c.s] 43))
  generalize w.alloc (.cells #[.int .i64 c.office, .int .i64 c.hour, .int .i64 c.inn, .int .i64 c.out, .int .i64 c.store, .string c.prev, .int .i64 c.e, .int .i64 c.s] 43) = w1 at *
  have HS0 : Hid (w1.heap[w.heap.size]? = some (.cells #[.int .i64 c.office, .int .i64 c.hour, .int .i64 c.inn, .int .i64 c.out, .int .i64 c.store, .string c.prev, .int .i64 c.e, .int .i64 c.s] 43) ∧ w1.cell? ⟨w.heap.size, 0, none⟩ = some (.int .i64 c.office) ∧ w1.cell? ⟨w.heap.size, 1, none⟩ = some (.int .i64 c.hour) ∧ w1.cell? ⟨w.heap.size, 2, none⟩ = some (.int .i64 c.inn) ∧ w1.cell? ⟨w.heap.size, 3, none⟩ = some (.int .i64 c.out) ∧ w1.cell? ⟨w.heap.size, 4, none⟩ = some (.int .i64 c.store) ∧ w1.cell? ⟨w.heap.size, 5, none⟩ = some (.string c.prev) ∧ w1.cell? ⟨w.heap.size, 6, none⟩ = some (.int .i64 c.e) ∧ w1.cell? ⟨w.heap.size, 7, none⟩ = some (.int .i64 c.s) ∧ Below w.heap.size w w1) := Lib.hid ⟨Kh1.out, (cell_of_row _ _ _ _ _ _ Kh1.out).trans rfl, (cell_of_row _ _ _ _ _ _ Kh1.out).trans rfl, (cell_of_row _ _ _ _ _ _ Kh1.out).trans rfl, (cell_of_row _ _ _ _ _ _ Kh1.out).trans rfl, (cell_of_row _ _ _ _ _ _ Kh1.out).trans rfl, (cell_of_row _ _ _ _ _ _ Kh1.out).trans rfl, (cell_of_row _ _ _ _ _ _ Kh1.out).trans rfl, (cell_of_row _ _ _ _ _ _ Kh1.out).trans rfl, HB1.out⟩
  clear Kh1 HB1
  go_region_held3 (fun w' => w'.heap[w.heap.size]? = some (.cells #[.int .i64 c.office, .int .i64 c.hour, .int .i64 c.inn, .int .i64 c.out, .int .i64 c.store, .string c.prev, .int .i64 c.e, .int .i64 c.s] 43) ∧ w'.cell? ⟨w.heap.size, 0, none⟩ = some (.int .i64 c.office) ∧ w'.cell? ⟨w.heap.size, 1, none⟩ = some (.int .i64 c.hour) ∧ w'.cell? ⟨w.heap.size, 2, none⟩ = some (.int .i64 c.inn) ∧ w'.cell? ⟨w.heap.size, 3, none⟩ = some (.int .i64 c.out) ∧ w'.cell? ⟨w.heap.size, 4, none⟩ = some (.int .i64 c.store) ∧ w'.cell? ⟨w.heap.size, 5, none⟩ = some (.string c.prev) ∧ w'.cell? ⟨w.heap.size, 6, none⟩ = some (.int .i64 c.e) ∧ w'.cell? ⟨w.heap.size, 7, none⟩ = some (.int .i64 c.s) ∧ Below w.heap.size w w') (first | assumption | exact HS0.out | exact bc_step (by assumption) hb | exact bc_stepN (by assumption) _ | exact bc_stepA (by assumption) | exact bc_stepU (by assumption) | exact bc_stepN (bc_stepU (by assumption)) _) ((first | (go_at_call 43; refine (HCo.out _ (HM.out.up (show _ ∧ _ ∧ _ ∧ _ ∧ _ ∧ _ ∧ _ ∧ _ ∧ _ ∧ Below w.heap.size w _ by assumption).2.2.2.2.2.2.2.2.2)).mono ?_; rintro e w' ⟨rfl, hb⟩) | (go_at_call 56; refine (HV.out _ (HG.out.below (show _ ∧ _ ∧ _ ∧ _ ∧ _ ∧ _ ∧ _ ∧ _ ∧ _ ∧ Below w.heap.size w _ by assumption).2.2.2.2.2.2.2.2.2 HG.out.size) (HM.out.up (show _ ∧ _ ∧ _ ∧ _ ∧ _ ∧ _ ∧ _ ∧ _ ∧ _ ∧ Below w.heap.size w _ by assumption).2.2.2.2.2.2.2.2.2)).mono ?_; rintro e w' ⟨rfl, hb⟩)))
  rename World => w2
  rename _ ∧ _ => hFin
  obtain ⟨qK, -, -, -, -, -, -, -, -, qBel⟩ := hFin
  have Kh2 := Lib.hid qK
  have HB2 := Lib.hid qBel
  clear HS0 qBel qK
  have cK0 : w2.cell? ⟨w.heap.size, 0, none⟩ = some (.int .i64 c.office) := (cell_of_row _ _ _ _ _ _ Kh2.out).trans rfl
  have cK1 : w2.cell? ⟨w.heap.size, 1, none⟩ = some (.int .i64 c.hour) := (cell_of_row _ _ _ _ _ _ Kh2.out).trans rfl
  have cK2 : w2.cell? ⟨w.heap.size, 2, none⟩ = some (.int .i64 c.inn) := (cell_of_row _ _ _ _ _ _ Kh2.out).trans rfl
  have cK3 : w2.cell? ⟨w.heap.size, 3, none⟩ = some (.int .i64 c.out) := (cell_of_row _ _ _ _ _ _ Kh2.out).trans rfl
  have cK4 : w2.cell? ⟨w.heap.size, 4, none⟩ = some (.int .i64 c.store) := (cell_of_row _ _ _ _ _ _ Kh2.out).trans rfl
  have cK5 : w2.cell? ⟨w.heap.size, 5, none⟩ = some (.string c.prev) := (cell_of_row _ _ _ _ _ _ Kh2.out).trans rfl
  have cK6 : w2.cell? ⟨w.heap.size, 6, none⟩ = some (.int .i64 c.e) := (cell_of_row _ _ _ _ _ _ Kh2.out).trans rfl
  have cK7 : w2.cell? ⟨w.heap.size, 7, none⟩ = some (.int .i64 c.s) := (cell_of_row _ _ _ _ _ _ Kh2.out).trans rfl
  go_wp2_with fail
  go_ret
  exact ⟨rfl, HB2.out⟩
theorem bp_step {w cur w' : World} {k0 : Nat} {A0 : Obj} {v0 v1 v2 v3 v4 v5 : Value} (h : cur.heap[k0]? = some A0 ∧ cur.cell? ⟨k0, 0, none⟩ = some v0 ∧ cur.cell? ⟨k0, 1, none⟩ = some v1 ∧ cur.cell? ⟨k0, 2, none⟩ = some v2 ∧ cur.cell? ⟨k0, 3, none⟩ = some v3 ∧ cur.cell? ⟨k0, 4, none⟩ = some v4 ∧ cur.cell? ⟨k0, 5, none⟩ = some v5 ∧ Below w.heap.size w cur) (hb : Below cur.heap.size cur w') : w'.heap[k0]? = some A0 ∧ w'.cell? ⟨k0, 0, none⟩ = some v0 ∧ w'.cell? ⟨k0, 1, none⟩ = some v1 ∧ w'.cell? ⟨k0, 2, none⟩ = some v2 ∧ w'.cell? ⟨k0, 3, none⟩ = some v3 ∧ w'.cell? ⟨k0, 4, none⟩ = some v4 ∧ w'.cell? ⟨k0, 5, none⟩ = some v5 ∧ Below w.heap.size w w' := by
  obtain ⟨a0, c0, c1, c2, c3, c4, c5, d⟩ := h
  exact ⟨blk_below a0 hb (blk_lt a0), (hb.cell (p := ⟨_, 0, none⟩) (blk_lt a0)).trans c0, (hb.cell (p := ⟨_, 1, none⟩) (blk_lt a0)).trans c1, (hb.cell (p := ⟨_, 2, none⟩) (blk_lt a0)).trans c2, (hb.cell (p := ⟨_, 3, none⟩) (blk_lt a0)).trans c3, (hb.cell (p := ⟨_, 4, none⟩) (blk_lt a0)).trans c4, (hb.cell (p := ⟨_, 5, none⟩) (blk_lt a0)).trans c5, d.trans (hb.mono d.size)⟩
theorem bp_stepN {w cur : World} {k0 : Nat} {A0 : Obj} {v0 v1 v2 v3 v4 v5 : Value} (h : cur.heap[k0]? = some A0 ∧ cur.cell? ⟨k0, 0, none⟩ = some v0 ∧ cur.cell? ⟨k0, 1, none⟩ = some v1 ∧ cur.cell? ⟨k0, 2, none⟩ = some v2 ∧ cur.cell? ⟨k0, 3, none⟩ = some v3 ∧ cur.cell? ⟨k0, 4, none⟩ = some v4 ∧ cur.cell? ⟨k0, 5, none⟩ = some v5 ∧ Below w.heap.size w cur) (n : Nat) : (cur.drewN n).heap[k0]? = some A0 ∧ (cur.drewN n).cell? ⟨k0, 0, none⟩ = some v0 ∧ (cur.drewN n).cell? ⟨k0, 1, none⟩ = some v1 ∧ (cur.drewN n).cell? ⟨k0, 2, none⟩ = some v2 ∧ (cur.drewN n).cell? ⟨k0, 3, none⟩ = some v3 ∧ (cur.drewN n).cell? ⟨k0, 4, none⟩ = some v4 ∧ (cur.drewN n).cell? ⟨k0, 5, none⟩ = some v5 ∧ Below w.heap.size w (cur.drewN n) := by
  obtain ⟨a0, c0, c1, c2, c3, c4, c5, d⟩ := h
  exact ⟨a0, c0, c1, c2, c3, c4, c5, below_drewN d⟩
theorem bp_stepA {w cur : World} {k0 : Nat} {A0 : Obj} {v0 v1 v2 v3 v4 v5 : Value} {o : Obj} (h : cur.heap[k0]? = some A0 ∧ cur.cell? ⟨k0, 0, none⟩ = some v0 ∧ cur.cell? ⟨k0, 1, none⟩ = some v1 ∧ cur.cell? ⟨k0, 2, none⟩ = some v2 ∧ cur.cell? ⟨k0, 3, none⟩ = some v3 ∧ cur.cell? ⟨k0, 4, none⟩ = some v4 ∧ cur.cell? ⟨k0, 5, none⟩ = some v5 ∧ Below w.heap.size w cur) : (cur.alloc o).heap[k0]? = some A0 ∧ (cur.alloc o).cell? ⟨k0, 0, none⟩ = some v0 ∧ (cur.alloc o).cell? ⟨k0, 1, none⟩ = some v1 ∧ (cur.alloc o).cell? ⟨k0, 2, none⟩ = some v2 ∧ (cur.alloc o).cell? ⟨k0, 3, none⟩ = some v3 ∧ (cur.alloc o).cell? ⟨k0, 4, none⟩ = some v4 ∧ (cur.alloc o).cell? ⟨k0, 5, none⟩ = some v5 ∧ Below w.heap.size w (cur.alloc o) := bp_step h ((Below.refl _ _).alloc (Nat.le_refl _) o)
theorem bp_stepU {w cur : World} {k0 : Nat} {A0 : Obj} {v0 v1 v2 v3 v4 v5 : Value} {n : Nat} (h : (cur.drewN n).heap[k0]? = some A0 ∧ (cur.drewN n).cell? ⟨k0, 0, none⟩ = some v0 ∧ (cur.drewN n).cell? ⟨k0, 1, none⟩ = some v1 ∧ (cur.drewN n).cell? ⟨k0, 2, none⟩ = some v2 ∧ (cur.drewN n).cell? ⟨k0, 3, none⟩ = some v3 ∧ (cur.drewN n).cell? ⟨k0, 4, none⟩ = some v4 ∧ (cur.drewN n).cell? ⟨k0, 5, none⟩ = some v5 ∧ Below w.heap.size w (cur.drewN n)) : cur.heap[k0]? = some A0 ∧ cur.cell? ⟨k0, 0, none⟩ = some v0 ∧ cur.cell? ⟨k0, 1, none⟩ = some v1 ∧ cur.cell? ⟨k0, 2, none⟩ = some v2 ∧ cur.cell? ⟨k0, 3, none⟩ = some v3 ∧ cur.cell? ⟨k0, 4, none⟩ = some v4 ∧ cur.cell? ⟨k0, 5, none⟩ = some v5 ∧ Below w.heap.size w cur := by
  obtain ⟨a0, c0, c1, c2, c3, c4, c5, d⟩ := h
  exact ⟨a0, c0, c1, c2, c3, c4, c5, ⟨d.os, d.tape, d.output, d.size, d.block⟩⟩
set_option maxRecDepth 100000 in
set_option maxHeartbeats 2000000 in
theorem bytesP_any (c : PV) (w : World) (hO : POk c) :
    Calls Tryz.prog 17 #[.agg #[.int .i64 c.office, .int .i64 c.since, .int .i64 c.till, .int .i64 c.litres, .int .i64 c.e, .int .i64 c.s]] w fun e w' => e = .returned (.string ⟨(bytesP c).toArray⟩) ∧ Below w.heap.size w w' := by
  have hp := True.intro
  obtain ⟨A, hA⟩ : ∃ A : ByteArray, A = ⟨(coreP c).toArray⟩ := ⟨_, rfl⟩
  obtain ⟨B, hB⟩ : ∃ B : ByteArray, B = ⟨([c.e, c.s].flatMap intL).toArray⟩ := ⟨_, rfl⟩
  have hx : ∀ x ∈ [c.e, c.s], I64 x := by
    obtain ⟨-, -, -, -, h6, h7⟩ := hO
    intro x hx
    simp only [List.mem_cons, List.not_mem_nil, or_false] at hx
    rcases hx with rfl | rfl <;> assumption
  have HI : Hid (∀ w0 bk, w0.heap[bk]? = some (.cells #[.int .i64 c.e, .int .i64 c.s] 3) → Calls Tryz.prog 48 #[.slice (some ⟨bk, 0, none⟩) 2 2] w0 fun e w' => e = .returned (.string B) ∧ Below w0.heap.size w0 w') := Lib.hid (fun w0 bk h => by
    rw [hB]
    exact ints_row bk [c.e, c.s] w0 hx h (show _ ≤ 100 by simp))
  have HCo : Hid (∀ w0, Calls Tryz.prog 54 #[.agg #[.int .i64 c.office, .int .i64 c.since, .int .i64 c.till, .int .i64 c.litres, .int .i64 c.e, .int .i64 c.s]] w0 fun e w' => e = .returned (.string A) ∧ Below w0.heap.size w0 w') := Lib.hid (fun w0 => by
    rw [hA]
    exact coreP_any c w0 hO)
  have HAB : Hid (A ++ B = ⟨(bytesP c).toArray⟩) := Lib.hid (by
    rw [hA, hB, catL]
    simp [bytesP])
  have hAs : A.size ≤ 36 := by
    have h := coreP_len hO
    have h2 : A.data.toList.length ≤ 36 := by rw [hA]; exact h
    exact h2
  have hBs : B.size ≤ 18 := by
    have h := ints_len _ hx
    have h2 : B.data.toList.length ≤ 18 := by rw [hB]; exact h
    exact h2
  have hn : ¬ 9223372036854775807 < A.size + B.size := by omega
  clear hA hB hx hO hp
  go_enter Tryz.func17, Tryz.ntmps17
  go_upto_region 1 with fail
  have HB1 := Lib.hid ((Below.refl w.heap.size w).alloc (Nat.le_refl _) (.cells #[.int .i64 c.office, .int .i64 c.since, .int .i64 c.till, .int .i64 c.litres, .int .i64 c.e, .int .i64 c.s] 58))
  have Kh1 := Lib.hid (heap_alloc_new w (.cells #[.int .i64 c.office, .int .i64 c.since, .int .i64 c.till, .int .i64 c.litres, .int .i64 c.e, .int .i64 c.s] 58))
  generalize w.alloc (.cells #[.int .i64 c.office, .int .i64 c.since, .int .i64 c.till, .int .i64 c.litres, .int .i64 c.e, .int .i64 c.s] 58) = w1 at *
  have HS0 : Hid (w1.drew.heap[w.heap.size]? = some (.cells #[.int .i64 c.office, .int .i64 c.since, .int .i64 c.till, .int .i64 c.litres, .int .i64 c.e, .int .i64 c.s] 58) ∧ w1.drew.cell? ⟨w.heap.size, 0, none⟩ = some (.int .i64 c.office) ∧ w1.drew.cell? ⟨w.heap.size, 1, none⟩ = some (.int .i64 c.since) ∧ w1.drew.cell? ⟨w.heap.size, 2, none⟩ = some (.int .i64 c.till) ∧ w1.drew.cell? ⟨w.heap.size, 3, none⟩ = some (.int .i64 c.litres) ∧ w1.drew.cell? ⟨w.heap.size, 4, none⟩ = some (.int .i64 c.e) ∧ w1.drew.cell? ⟨w.heap.size, 5, none⟩ = some (.int .i64 c.s) ∧ Below w.heap.size w w1.drew) := Lib.hid ⟨Kh1.out, (cell_of_row _ _ _ _ _ _ Kh1.out).trans rfl, (cell_of_row _ _ _ _ _ _ Kh1.out).trans rfl, (cell_of_row _ _ _ _ _ _ Kh1.out).trans rfl, (cell_of_row _ _ _ _ _ _ Kh1.out).trans rfl, (cell_of_row _ _ _ _ _ _ Kh1.out).trans rfl, (cell_of_row _ _ _ _ _ _ Kh1.out).trans rfl, HB1.out.drew⟩
  clear Kh1 HB1
  refine wp_region_noPanic ?_
  refine wp_region_held_drew (S := fun w' => w'.heap[w.heap.size]? = some (.cells #[.int .i64 c.office, .int .i64 c.since, .int .i64 c.till, .int .i64 c.litres, .int .i64 c.e, .int .i64 c.s] 58) ∧ w'.cell? ⟨w.heap.size, 0, none⟩ = some (.int .i64 c.office) ∧ w'.cell? ⟨w.heap.size, 1, none⟩ = some (.int .i64 c.since) ∧ w'.cell? ⟨w.heap.size, 2, none⟩ = some (.int .i64 c.till) ∧ w'.cell? ⟨w.heap.size, 3, none⟩ = some (.int .i64 c.litres) ∧ w'.cell? ⟨w.heap.size, 4, none⟩ = some (.int .i64 c.e) ∧ w'.cell? ⟨w.heap.size, 5, none⟩ = some (.int .i64 c.s) ∧ Below w.heap.size w w') (by kernel_rfl) HS0.out (fun hHeld => ?_)
  refine' wpAnyH_take (i := 0) (v := _) (by simp only [List.getElem?_toArray, List.getElem?_cons_zero]; exact rfl) (by kernel_rfl) (by kernel_rfl) (by kernel_rfl) (fun _ _ _ h => h) (Or.inl ⟨by rfl, ?y0x26⟩) hHeld ?r0x26
  case y0x26 => (intro w hSw; (try dsimp only at hSw); go_simp; try with_reducible rfl)
  try simp only [Act.put, List.setIfInBounds_toArray, List.set_cons_zero, List.set_cons_succ]
  refine' wpAnyH_take (i := 2) (v := _) (by simp only [List.getElem?_toArray, List.getElem?_cons_succ, List.getElem?_cons_zero]; exact rfl) (by kernel_rfl) (by kernel_rfl) (by kernel_rfl) (fun _ _ _ h => h) (Or.inl ⟨by rfl, ?y2x27⟩) hHeld ?r2x27
  case y2x27 => (intro w hSw; (try dsimp only at hSw); go_simp; try with_reducible rfl)
  try simp only [Act.put, List.setIfInBounds_toArray, List.set_cons_zero, List.set_cons_succ]
  refine' wpAnyH_take (i := 3) (v := _) (by simp only [List.getElem?_toArray, List.getElem?_cons_succ, List.getElem?_cons_zero]; exact rfl) (by kernel_rfl) (by kernel_rfl) (by kernel_rfl) (fun _ _ _ h => h) (Or.inl ⟨by rfl, ?y3x28⟩) hHeld ?r3x28
  case y3x28 => (intro w hSw; (try dsimp only at hSw); go_simp; try with_reducible rfl)
  try simp only [Act.put, List.setIfInBounds_toArray, List.set_cons_zero, List.set_cons_succ]
  refine' wpAnyH_take (i := 4) (v := _) (by simp only [List.getElem?_toArray, List.getElem?_cons_succ, List.getElem?_cons_zero]; exact rfl) (by kernel_rfl) (by kernel_rfl) (by kernel_rfl) (fun _ _ _ h => h) (Or.inl ⟨by rfl, ?y4x29⟩) hHeld ?r4x29
  case y4x29 => (intro w hSw; (try dsimp only at hSw); go_simp; try with_reducible rfl)
  try simp only [Act.put, List.setIfInBounds_toArray, List.set_cons_zero, List.set_cons_succ]
  refine' wpAnyH_take (i := 5) (v := _) (by simp only [List.getElem?_toArray, List.getElem?_cons_succ, List.getElem?_cons_zero]; exact rfl) (by kernel_rfl) (by kernel_rfl) (by kernel_rfl) (fun _ _ _ h => h) (Or.inl ⟨by rfl, ?y5x30⟩) hHeld ?r5x30
  case y5x30 => (intro w hSw; (try dsimp only at hSw); go_simp; try with_reducible rfl)
  try simp only [Act.put, List.setIfInBounds_toArray, List.set_cons_zero, List.set_cons_succ]
  refine' wpAnyH_take (i := 6) (v := _) (by simp only [List.getElem?_toArray, List.getElem?_cons_succ, List.getElem?_cons_zero]; exact rfl) (by kernel_rfl) (by kernel_rfl) (by kernel_rfl) (fun _ _ _ h => h) (Or.inl ⟨by rfl, ?y6x31⟩) hHeld ?r6x31
  case y6x31 => (intro w hSw; (try dsimp only at hSw); go_simp; try with_reducible rfl)
  try simp only [Act.put, List.setIfInBounds_toArray, List.set_cons_zero, List.set_cons_succ]
  refine' wpAnyH_take (i := 7) (v := _) (by simp only [List.getElem?_toArray, List.getElem?_cons_succ, List.getElem?_cons_zero]; exact rfl) (by kernel_rfl) (by kernel_rfl) (by kernel_rfl) (fun _ _ _ h => h) (Or.inl ⟨by rfl, ?y7x32⟩) hHeld ?r7x32
  case y7x32 => (intro w hSw; (try dsimp only at hSw); go_simp; try with_reducible rfl)
  try simp only [Act.put, List.setIfInBounds_toArray, List.set_cons_zero, List.set_cons_succ]
  refine wpAnyH_ready (rs := [1, 8]) (by kernel_rfl) (by simp) ?_
  refine AllReadyH.cons (by simp only [List.getElem?_toArray, List.getElem?_cons_succ, List.getElem?_cons_zero]; exact rfl) (fun K hK => ?_) (AllReadyH.cons (by simp only [List.getElem?_toArray, List.getElem?_cons_succ, List.getElem?_cons_zero]; exact rfl) (fun K hK => ?_) AllReadyH.nil)
  · go_simp
    refine (HCo.out _).mono ?_
    rintro e w' ⟨rfl, hb⟩
    refine hK.out _ _ (bp_step hHeld hb) (fun hHeld => ?_)
    clear hK K hb
    try simp only [Act.put, List.setIfInBounds_toArray, List.set_cons_zero, List.set_cons_succ]
    refine wpAnyH_ready (rs := [8]) (by kernel_rfl) (by simp) ?_
    refine AllReadyH.cons (by simp only [List.getElem?_toArray, List.getElem?_cons_succ, List.getElem?_cons_zero]; exact rfl) (fun K hK => ?_) AllReadyH.nil
    go_simp
    refine hK.out _ _ (bp_stepA hHeld) (fun hHeld => ?_)
    clear hK K
    try simp only [Act.put, List.setIfInBounds_toArray, List.set_cons_zero, List.set_cons_succ]
    refine wpAnyH_ready (rs := [9]) (by kernel_rfl) (by simp) ?_
    refine AllReadyH.cons (by simp only [List.getElem?_toArray, List.getElem?_cons_succ, List.getElem?_cons_zero]; exact rfl) (fun K hK => ?_) AllReadyH.nil
    go_simp
    refine (HI.out _ _ (by exact heap_alloc_new w' _)).mono ?_
    rintro e w' ⟨rfl, hb⟩
    refine hK.out _ _ (bp_step hHeld hb) (fun hHeld => ?_)
    clear hK K hb
    try simp only [Act.put, List.setIfInBounds_toArray, List.set_cons_zero, List.set_cons_succ]
    refine' wpAnyH_take (i := 10) (v := _) (by simp only [List.getElem?_toArray, List.getElem?_cons_succ, List.getElem?_cons_zero]; exact rfl) (by kernel_rfl) (by kernel_rfl) (by kernel_rfl) (fun _ _ _ h => h) (Or.inl ⟨by rfl, ?y10x33⟩) hHeld ?r10x33
    case y10x33 => (intro w hSw; (try dsimp only at hSw); go_simp; try with_reducible rfl)
    try simp only [Act.put, List.setIfInBounds_toArray, List.set_cons_zero, List.set_cons_succ]
    refine' wpAnyH_take (i := 11) (v := _) (by simp only [List.getElem?_toArray, List.getElem?_cons_succ, List.getElem?_cons_zero]; exact rfl) (by kernel_rfl) (by kernel_rfl) (by kernel_rfl) (fun _ _ _ h => h) (Or.inl ⟨by rfl, ?y11x34⟩) hHeld ?r11x34
    case y11x34 => (intro w hSw; (try dsimp only at hSw); go_simp; try with_reducible rfl)
    try simp only [Act.put, List.setIfInBounds_toArray, List.set_cons_zero, List.set_cons_succ]
    refine wpAnyH_done (by kernel_rfl) ?_ _
    refine NoPanic.normal ?_
    have HBf := Lib.hid hHeld.2.2.2.2.2.2.2
    go_wp2_with fail
    go_ret
    exact ⟨by rw [← HAB.out]; rfl, HBf.out⟩
  · go_simp
    refine hK.out _ _ (bp_stepA hHeld) (fun hHeld => ?_)
    clear hK K
    try simp only [Act.put, List.setIfInBounds_toArray, List.set_cons_zero, List.set_cons_succ]
    refine wpAnyH_ready (rs := [1]) (by kernel_rfl) (by simp) ?_
    refine AllReadyH.cons (by simp only [List.getElem?_toArray, List.getElem?_cons_succ, List.getElem?_cons_zero]; exact rfl) (fun K hK => ?_) AllReadyH.nil
    go_simp
    refine (HCo.out _).mono ?_
    rintro e w' ⟨rfl, hb⟩
    have HRw : Hid (w'.heap[w1.heap.size]? = some (.cells #[.int .i64 c.e, .int .i64 c.s] 3)) := Lib.hid (blk_below (by exact heap_alloc_new w1 _) hb (by exact blk_lt (heap_alloc_new w1 _)))
    refine hK.out _ _ (bp_step hHeld hb) (fun hHeld => ?_)
    clear hK K hb
    try simp only [Act.put, List.setIfInBounds_toArray, List.set_cons_zero, List.set_cons_succ]
    refine wpAnyH_ready (rs := [9]) (by kernel_rfl) (by simp) ?_
    refine AllReadyH.cons (by simp only [List.getElem?_toArray, List.getElem?_cons_succ, List.getElem?_cons_zero]; exact rfl) (fun K hK => ?_) AllReadyH.nil
    go_simp
    refine (HI.out _ _ HRw.out).mono ?_
    rintro e w' ⟨rfl, hb⟩
    refine hK.out _ _ (bp_step hHeld hb) (fun hHeld => ?_)
    clear hK K hb
    try simp only [Act.put, List.setIfInBounds_toArray, List.set_cons_zero, List.set_cons_succ]
    refine' wpAnyH_take (i := 10) (v := _) (by simp only [List.getElem?_toArray, List.getElem?_cons_succ, List.getElem?_cons_zero]; exact rfl) (by kernel_rfl) (by kernel_rfl) (by kernel_rfl) (fun _ _ _ h => h) (Or.inl ⟨by rfl, ?y10x35⟩) hHeld ?r10x35
    case y10x35 => (intro w hSw; (try dsimp only at hSw); go_simp; try with_reducible rfl)
    try simp only [Act.put, List.setIfInBounds_toArray, List.set_cons_zero, List.set_cons_succ]
    refine' wpAnyH_take (i := 11) (v := _) (by simp only [List.getElem?_toArray, List.getElem?_cons_succ, List.getElem?_cons_zero]; exact rfl) (by kernel_rfl) (by kernel_rfl) (by kernel_rfl) (fun _ _ _ h => h) (Or.inl ⟨by rfl, ?y11x36⟩) hHeld ?r11x36
    case y11x36 => (intro w hSw; (try dsimp only at hSw); go_simp; try with_reducible rfl)
    try simp only [Act.put, List.setIfInBounds_toArray, List.set_cons_zero, List.set_cons_succ]
    refine wpAnyH_done (by kernel_rfl) ?_ _
    refine NoPanic.normal ?_
    have HBf := Lib.hid hHeld.2.2.2.2.2.2.2
    go_wp2_with fail
    go_ret
    exact ⟨by rw [← HAB.out]; rfl, HBf.out⟩
def ctxP : List UInt8 := [112, 114, 111, 109, 105, 115, 101]
/-- what Verify answers -/
def VouchedP (p : Int) (c : PV) : Prop := VerOk p c.e c.s ctxP (coreP c)
instance (p : Int) (c : PV) : Decidable (VouchedP p c) := by
  unfold VouchedP
  infer_instance
set_option maxRecDepth 100000 in
set_option maxHeartbeats 2000000 in
theorem verifyP_any (p : Int) (c : PV) (w : World) (hpi : I64 p) (hO : POk c) (hg : Glob w) (hml : MLen w) :
    Calls Tryz.prog 20 #[.int .i64 p, .agg #[.int .i64 c.office, .int .i64 c.since, .int .i64 c.till, .int .i64 c.litres, .int .i64 c.e, .int .i64 c.s]] w fun e w' => e = .returned (.bool (decide (VouchedP p c))) ∧ Below w.heap.size w w' := by
  have HM := Lib.hid hml
  have HG := Lib.hid hg
  obtain ⟨A, hA⟩ : ∃ A : ByteArray, A = ⟨(coreP c).toArray⟩ := ⟨_, rfl⟩
  have HCo : Hid (∀ w0, Calls Tryz.prog 54 #[.agg #[.int .i64 c.office, .int .i64 c.since, .int .i64 c.till, .int .i64 c.litres, .int .i64 c.e, .int .i64 c.s]] w0 fun e w' => e = .returned (.string A) ∧ Below w0.heap.size w0 w') := Lib.hid (fun w0 => by
    rw [hA]
    exact coreP_any c w0 hO)
  have hAs : A.size ≤ 2000 := by
    have h := coreP_len hO
    have h2 : A.data.toList.length ≤ 2000 := by rw [hA]; show (coreP c).length ≤ 2000; omega
    exact h2
  obtain ⟨b, hb⟩ : ∃ b, b = decide (VouchedP p c) := ⟨_, rfl⟩
  have HV : Hid (∀ w0, Glob w0 → MLen w0 → Calls Tryz.prog 56 #[.int .i64 p, .string ⟨#[112, 114, 111, 109, 105, 115, 101]⟩, .string A, .agg #[.int .i64 c.e, .int .i64 c.s]] w0 fun e w' => e = .returned (.bool b) ∧ Below w0.heap.size w0 w') := Lib.hid (fun w0 h1 h2 => by
    have h := verify_any p c.e c.s ⟨#[112, 114, 111, 109, 105, 115, 101]⟩ A w0 hpi (by decide) (Nat.le_trans hAs (by decide)) h1 h2
    have e : A.data.toList = coreP c := by rw [hA]
    rw [e] at h
    rw [hb]
    exact h)
  rw [← hb]
  clear hml hg hA hAs hb hO hpi
  go_enter Tryz.func20, Tryz.ntmps20
  go_upto_region 1 with fail
  have HB1 := Lib.hid ((Below.refl w.heap.size w).alloc (Nat.le_refl _) (.cells #[.int .i64 c.office, .int .i64 c.since, .int .i64 c.till, .int .i64 c.litres, .int .i64 c.e, .int .i64 c.s] 58))
  have Kh1 := Lib.hid (heap_alloc_new w (.cells #[.int .i64 c.office, .int .i64 c.since, .int .i64 c.till, .int .i64 c.litres, .int .i64 c.e, .int .i64 c.s] 58))
  generalize w.alloc (.cells #[.int .i64 c.office, .int .i64 c.since, .int .i64 c.till, .int .i64 c.litres, .int .i64 c.e, .int .i64 c.s] 58) = w1 at *
  have HS0 : Hid (w1.heap[w.heap.size]? = some (.cells #[.int .i64 c.office, .int .i64 c.since, .int .i64 c.till, .int .i64 c.litres, .int .i64 c.e, .int .i64 c.s] 58) ∧ w1.cell? ⟨w.heap.size, 0, none⟩ = some (.int .i64 c.office) ∧ w1.cell? ⟨w.heap.size, 1, none⟩ = some (.int .i64 c.since) ∧ w1.cell? ⟨w.heap.size, 2, none⟩ = some (.int .i64 c.till) ∧ w1.cell? ⟨w.heap.size, 3, none⟩ = some (.int .i64 c.litres) ∧ w1.cell? ⟨w.heap.size, 4, none⟩ = some (.int .i64 c.e) ∧ w1.cell? ⟨w.heap.size, 5, none⟩ = some (.int .i64 c.s) ∧ Below w.heap.size w w1) := Lib.hid ⟨Kh1.out, (cell_of_row _ _ _ _ _ _ Kh1.out).trans rfl, (cell_of_row _ _ _ _ _ _ Kh1.out).trans rfl, (cell_of_row _ _ _ _ _ _ Kh1.out).trans rfl, (cell_of_row _ _ _ _ _ _ Kh1.out).trans rfl, (cell_of_row _ _ _ _ _ _ Kh1.out).trans rfl, (cell_of_row _ _ _ _ _ _ Kh1.out).trans rfl, HB1.out⟩
  clear Kh1 HB1
  go_region_held3 (fun w' => w'.heap[w.heap.size]? = some (.cells #[.int .i64 c.office, .int .i64 c.since, .int .i64 c.till, .int .i64 c.litres, .int .i64 c.e, .int .i64 c.s] 58) ∧ w'.cell? ⟨w.heap.size, 0, none⟩ = some (.int .i64 c.office) ∧ w'.cell? ⟨w.heap.size, 1, none⟩ = some (.int .i64 c.since) ∧ w'.cell? ⟨w.heap.size, 2, none⟩ = some (.int .i64 c.till) ∧ w'.cell? ⟨w.heap.size, 3, none⟩ = some (.int .i64 c.litres) ∧ w'.cell? ⟨w.heap.size, 4, none⟩ = some (.int .i64 c.e) ∧ w'.cell? ⟨w.heap.size, 5, none⟩ = some (.int .i64 c.s) ∧ Below w.heap.size w w') (first | assumption | exact HS0.out | exact bp_step (by assumption) hb | exact bp_stepN (by assumption) _ | exact bp_stepA (by assumption) | exact bp_stepU (by assumption) | exact bp_stepN (bp_stepU (by assumption)) _) ((first | (go_at_call 54; refine (HCo.out _).mono ?_; rintro e w' ⟨rfl, hb⟩) | (go_at_call 56; refine (HV.out _ (HG.out.below (show _ ∧ _ ∧ _ ∧ _ ∧ _ ∧ _ ∧ _ ∧ Below w.heap.size w _ by assumption).2.2.2.2.2.2.2 HG.out.size) (HM.out.up (show _ ∧ _ ∧ _ ∧ _ ∧ _ ∧ _ ∧ _ ∧ Below w.heap.size w _ by assumption).2.2.2.2.2.2.2)).mono ?_; rintro e w' ⟨rfl, hb⟩)))
  rename World => w2
  rename _ ∧ _ => hFin
  obtain ⟨qK, -, -, -, -, -, -, qBel⟩ := hFin
  have Kh2 := Lib.hid qK
  have HB2 := Lib.hid qBel
  clear HS0 qBel qK
  have cK0 : w2.cell? ⟨w.heap.size, 0, none⟩ = some (.int .i64 c.office) := (cell_of_row _ _ _ _ _ _ Kh2.out).trans rfl
  have cK1 : w2.cell? ⟨w.heap.size, 1, none⟩ = some (.int .i64 c.since) := (cell_of_row _ _ _ _ _ _ Kh2.out).trans rfl
  have cK2 : w2.cell? ⟨w.heap.size, 2, none⟩ = some (.int .i64 c.till) := (cell_of_row _ _ _ _ _ _ Kh2.out).trans rfl
  have cK3 : w2.cell? ⟨w.heap.size, 3, none⟩ = some (.int .i64 c.litres) := (cell_of_row _ _ _ _ _ _ Kh2.out).trans rfl
  have cK4 : w2.cell? ⟨w.heap.size, 4, none⟩ = some (.int .i64 c.e) := (cell_of_row _ _ _ _ _ _ Kh2.out).trans rfl
  have cK5 : w2.cell? ⟨w.heap.size, 5, none⟩ = some (.int .i64 c.s) := (cell_of_row _ _ _ _ _ _ Kh2.out).trans rfl
  go_wp2_with fail
  go_ret
  exact ⟨rfl, HB2.out⟩
/-- the digest of a claim -/
def digC (c : CV) : List UInt8 := sumB (bytesC c)
theorem bytesC_len {c : CV} (h : COk c) (hp : c.prev.size ≤ 1000) : (bytesC c).length ≤ 2065 := by
  have h1 := coreC_len h hp
  obtain ⟨-, -, -, -, -, h6, h7⟩ := h
  have := intL_len h6; have := intL_len h7
  simp only [bytesC, List.length_append]
  omega
set_option maxRecDepth 100000 in
set_option maxHeartbeats 2000000 in
theorem digestC_any (c : CV) (w : World) (hO : COk c) (hp : c.prev.size ≤ 1000) (hg : Glob w) (hml : MLen w) :
    Calls Tryz.prog 18 #[.agg #[.int .i64 c.office, .int .i64 c.hour, .int .i64 c.inn, .int .i64 c.out, .int .i64 c.store, .string c.prev, .int .i64 c.e, .int .i64 c.s]] w fun e w' => e = .returned (.string ⟨(digC c).toArray⟩) ∧ Below w.heap.size w w' := by
  have HM := Lib.hid hml
  have HG := Lib.hid hg
  obtain ⟨A, hA⟩ : ∃ A : ByteArray, A = ⟨(bytesC c).toArray⟩ := ⟨_, rfl⟩
  obtain ⟨B, hB⟩ : ∃ B : ByteArray, B = ⟨(digC c).toArray⟩ := ⟨_, rfl⟩
  have hAs : A.size ≤ 2065 := by
    have h2 : A.data.toList.length ≤ 2065 := by rw [hA]; exact bytesC_len hO hp
    exact h2
  have HBy : Hid (∀ w0, MLen w0 → Calls Tryz.prog 13 #[.agg #[.int .i64 c.office, .int .i64 c.hour, .int .i64 c.inn, .int .i64 c.out, .int .i64 c.store, .string c.prev, .int .i64 c.e, .int .i64 c.s]] w0 fun e w' => e = .returned (.string A) ∧ Below w0.heap.size w0 w') := Lib.hid (fun w0 h => by rw [hA]; exact bytesC_any c w0 hO hp h)
  have HS : Hid (∀ w0, Glob w0 → Calls Tryz.prog 55 #[.string A] w0 fun e w' => e = .returned (.string B) ∧ Below w0.heap.size w0 w') := Lib.hid (fun w0 h => by
    have h2 := sum_any A w0 h (by omega)
    have e : A.data.toList = bytesC c := by rw [hA]
    rw [e] at h2
    rw [hB]
    exact h2)
  rw [← hB]
  clear hml hg hA hB hAs hO hp
  go_enter Tryz.func18, Tryz.ntmps18
  go_upto_region 1 with fail
  have HB1 := Lib.hid ((Below.refl w.heap.size w).alloc (Nat.le_refl _) (.cells #[.int .i64 c.office, .int .i64 c.hour, .int .i64 c.inn, .int .i64 c.out, .int .i64 c.store, .string c.prev, .int .i64 c.e, .int .i64 c.s] 43))
  have Kh1 := Lib.hid (heap_alloc_new w (.cells #[.int .i64 c.office, .int .i64 c.hour, .int .i64 c.inn, .int .i64 c.out, .int .i64 c.store, .string c.prev, .int .i64 c.e, .int .i64 c.s] 43))
  generalize w.alloc (.cells #[.int .i64 c.office, .int .i64 c.hour, .int .i64 c.inn, .int .i64 c.out, .int .i64 c.store, .string c.prev, .int .i64 c.e, .int .i64 c.s] 43) = w1 at *
  have cK0 : w1.cell? ⟨w.heap.size, 0, none⟩ = some (.int .i64 c.office) := (cell_of_row _ _ _ _ _ _ Kh1.out).trans rfl
  have cK1 : w1.cell? ⟨w.heap.size, 1, none⟩ = some (.int .i64 c.hour) := (cell_of_row _ _ _ _ _ _ Kh1.out).trans rfl
  have cK2 : w1.cell? ⟨w.heap.size, 2, none⟩ = some (.int .i64 c.inn) := (cell_of_row _ _ _ _ _ _ Kh1.out).trans rfl
  have cK3 : w1.cell? ⟨w.heap.size, 3, none⟩ = some (.int .i64 c.out) := (cell_of_row _ _ _ _ _ _ Kh1.out).trans rfl
  have cK4 : w1.cell? ⟨w.heap.size, 4, none⟩ = some (.int .i64 c.store) := (cell_of_row _ _ _ _ _ _ Kh1.out).trans rfl
  have cK5 : w1.cell? ⟨w.heap.size, 5, none⟩ = some (.string c.prev) := (cell_of_row _ _ _ _ _ _ Kh1.out).trans rfl
  have cK6 : w1.cell? ⟨w.heap.size, 6, none⟩ = some (.int .i64 c.e) := (cell_of_row _ _ _ _ _ _ Kh1.out).trans rfl
  have cK7 : w1.cell? ⟨w.heap.size, 7, none⟩ = some (.int .i64 c.s) := (cell_of_row _ _ _ _ _ _ Kh1.out).trans rfl
  go_wp2_with fail
  refine (HBy.out _ (HM.out.up HB1.out)).mono ?_
  rintro e w2 ⟨rfl, hb⟩
  have HB2 := Lib.hid (HB1.out.trans (hb.mono HB1.out.size))
  have Kh2 := Lib.hid (blk_below Kh1.out hb (blk_lt Kh1.out))
  clear cK0 cK1 cK2 cK3 cK4 cK5 cK6 cK7
  clear HB1 Kh1
  clear hb
  have cK0 : w2.cell? ⟨w.heap.size, 0, none⟩ = some (.int .i64 c.office) := (cell_of_row _ _ _ _ _ _ Kh2.out).trans rfl
  have cK1 : w2.cell? ⟨w.heap.size, 1, none⟩ = some (.int .i64 c.hour) := (cell_of_row _ _ _ _ _ _ Kh2.out).trans rfl
  have cK2 : w2.cell? ⟨w.heap.size, 2, none⟩ = some (.int .i64 c.inn) := (cell_of_row _ _ _ _ _ _ Kh2.out).trans rfl
  have cK3 : w2.cell? ⟨w.heap.size, 3, none⟩ = some (.int .i64 c.out) := (cell_of_row _ _ _ _ _ _ Kh2.out).trans rfl
  have cK4 : w2.cell? ⟨w.heap.size, 4, none⟩ = some (.int .i64 c.store) := (cell_of_row _ _ _ _ _ _ Kh2.out).trans rfl
  have cK5 : w2.cell? ⟨w.heap.size, 5, none⟩ = some (.string c.prev) := (cell_of_row _ _ _ _ _ _ Kh2.out).trans rfl
  have cK6 : w2.cell? ⟨w.heap.size, 6, none⟩ = some (.int .i64 c.e) := (cell_of_row _ _ _ _ _ _ Kh2.out).trans rfl
  have cK7 : w2.cell? ⟨w.heap.size, 7, none⟩ = some (.int .i64 c.s) := (cell_of_row _ _ _ _ _ _ Kh2.out).trans rfl
  go_wp2_with fail
  refine (HS.out _ (HG.out.below HB2.out HG.out.size)).mono ?_
  rintro e w3 ⟨rfl, hb⟩
  have HB3 := Lib.hid (HB2.out.trans (hb.mono HB2.out.size))
  have Kh3 := Lib.hid (blk_below Kh2.out hb (blk_lt Kh2.out))
  clear cK0 cK1 cK2 cK3 cK4 cK5 cK6 cK7
  clear HB2 Kh2
  clear hb
  have cK0 : w3.cell? ⟨w.heap.size, 0, none⟩ = some (.int .i64 c.office) := (cell_of_row _ _ _ _ _ _ Kh3.out).trans rfl
  have cK1 : w3.cell? ⟨w.heap.size, 1, none⟩ = some (.int .i64 c.hour) := (cell_of_row _ _ _ _ _ _ Kh3.out).trans rfl
  have cK2 : w3.cell? ⟨w.heap.size, 2, none⟩ = some (.int .i64 c.inn) := (cell_of_row _ _ _ _ _ _ Kh3.out).trans rfl
  have cK3 : w3.cell? ⟨w.heap.size, 3, none⟩ = some (.int .i64 c.out) := (cell_of_row _ _ _ _ _ _ Kh3.out).trans rfl
  have cK4 : w3.cell? ⟨w.heap.size, 4, none⟩ = some (.int .i64 c.store) := (cell_of_row _ _ _ _ _ _ Kh3.out).trans rfl
  have cK5 : w3.cell? ⟨w.heap.size, 5, none⟩ = some (.string c.prev) := (cell_of_row _ _ _ _ _ _ Kh3.out).trans rfl
  have cK6 : w3.cell? ⟨w.heap.size, 6, none⟩ = some (.int .i64 c.e) := (cell_of_row _ _ _ _ _ _ Kh3.out).trans rfl
  have cK7 : w3.cell? ⟨w.heap.size, 7, none⟩ = some (.int .i64 c.s) := (cell_of_row _ _ _ _ _ _ Kh3.out).trans rfl
  go_wp2_with fail
  go_ret
  exact ⟨rfl, HB3.out⟩
end Go.Proofs.YtepidpegoihllaaGreatDoor

