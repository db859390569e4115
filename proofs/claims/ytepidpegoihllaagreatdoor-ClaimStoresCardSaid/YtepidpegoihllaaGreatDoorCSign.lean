/- claim.Sign, PromiseSign. -/
import Derived.Outline
import Derived.Laws.Rows
import Derived.Laws.ResultCell
import Derived.Test.YtepidpegoihllaaGreatDoorCCore
namespace Go.Proofs.YtepidpegoihllaaGreatDoor
open Go.RowKit
theorem three_rows {w : World} {A B C : Obj} : (((w.alloc A).alloc B).alloc C).heap[w.heap.size]? = some A ∧ (((w.alloc A).alloc B).alloc C).heap[w.heap.size + 1]? = some B ∧ (((w.alloc A).alloc B).alloc C).heap[w.heap.size + 1 + 1]? = some C ∧ Below w.heap.size w (((w.alloc A).alloc B).alloc C) := by
  have s1 : (w.alloc A).heap.size = w.heap.size + 1 := by simp
  have s2 : ((w.alloc A).alloc B).heap.size = w.heap.size + 1 + 1 := by simp
  have hC := heap_alloc_new ((w.alloc A).alloc B) C
  rw [s2] at hC
  have hB := heap_alloc_new (w.alloc A) B
  rw [s1] at hB
  have hA := heap_alloc_new w A
  have b1 : Below w.heap.size w (w.alloc A) := (Below.refl _ _).alloc (Nat.le_refl _) _
  have b2 := b1.alloc b1.size B
  have b3 := b2.alloc b2.size C
  refine ⟨?_, ?_, hC, b3⟩
  · exact blk_below (blk_below hA ((Below.refl _ _).alloc (Nat.le_refl _) B) (blk_lt hA)) ((Below.refl _ _).alloc (Nat.le_refl _) C) (by rw [s2]; omega)
  · exact blk_below hB ((Below.refl _ _).alloc (Nat.le_refl _) C) (by rw [s2]; omega)
theorem key_step {w cur w' : World} {k : Nat} {A : Obj} {u v : Value} (h : cur.heap[k]? = some A ∧ cur.cell? ⟨k, 0, none⟩ = some u ∧ cur.cell? ⟨k, 1, none⟩ = some v ∧ Below w.heap.size w cur) (hb : Below cur.heap.size cur w') :
    w'.heap[k]? = some A ∧ w'.cell? ⟨k, 0, none⟩ = some u ∧ w'.cell? ⟨k, 1, none⟩ = some v ∧ Below w.heap.size w w' := by
  obtain ⟨a, b, c, d⟩ := h
  exact ⟨blk_below a hb (blk_lt a), (hb.cell (p := ⟨k, 0, none⟩) (blk_lt a)).trans b, (hb.cell (p := ⟨k, 1, none⟩) (blk_lt a)).trans c, d.trans (hb.mono d.size)⟩
theorem key_set {w cur : World} {k b j : Nat} {A : Obj} {u v x : Value} (h : cur.heap[k]? = some A ∧ cur.cell? ⟨k, 0, none⟩ = some u ∧ cur.cell? ⟨k, 1, none⟩ = some v ∧ Below w.heap.size w cur) (hne : k ≠ b) (hle : w.heap.size ≤ b) :
    (cur.setCell ⟨b, j, none⟩ x).heap[k]? = some A ∧ (cur.setCell ⟨b, j, none⟩ x).cell? ⟨k, 0, none⟩ = some u ∧ (cur.setCell ⟨b, j, none⟩ x).cell? ⟨k, 1, none⟩ = some v ∧ Below w.heap.size w (cur.setCell ⟨b, j, none⟩ x) := by
  obtain ⟨a, c0, c1, d⟩ := h
  have e : (cur.setCell ⟨b, j, none⟩ x).heap[k]? = cur.heap[k]? := heap_setCell_other _ _ _ _ hne
  refine ⟨e.trans a, ?_, ?_, d.setCell hle _⟩
  · rw [← c0]; unfold World.cell?; rw [e]
  · rw [← c1]; unfold World.cell?; rw [e]
theorem coreC_size {c : CV} {A : ByteArray} (hO : COk c) (hp : c.prev.size ≤ 900) (hA : A = ⟨(coreC c).toArray⟩) : A.size ≤ 2000 := by
  have l2 := textL_len c.prev.data.toList
  have l3 : c.prev.data.toList.length = c.prev.size := by simp
  have h : (coreC c).length ≤ 1900 := by
    obtain ⟨h1, h2, h3, h4, h5, -⟩ := hO
    have := intL_len h1; have := intL_len h2; have := intL_len h3; have := intL_len h4; have := intL_len h5
    simp [coreC, textC]
    omega
  have h2 : A.data.toList.length ≤ 2000 := by rw [hA]; show (coreC c).length ≤ 2000; omega
  exact h2
theorem coreP_size {c : PV} {A : ByteArray} (hO : POk c) (hA : A = ⟨(coreP c).toArray⟩) : A.size ≤ 2000 := by
  have h := coreP_len hO
  have h2 : A.data.toList.length ≤ 2000 := by rw [hA]; show (coreP c).length ≤ 2000; omega
  exact h2
set_option maxRecDepth 100000 in
set_option maxHeartbeats 2000000 in
theorem signC_any (x p : Int) (c : CV) (w : World) (hO : COk c) (hp : c.prev.size ≤ 900) (hg : Glob w) (hml : MLen w) :
    Calls Tryz.prog 11 #[.agg #[.int .i64 x, .int .i64 p], .agg #[.int .i64 c.office, .int .i64 c.hour, .int .i64 c.inn, .int .i64 c.out, .int .i64 c.store, .string c.prev, .int .i64 c.e, .int .i64 c.s]] w fun e w' => e = .returned (.agg #[.int .i64 c.office, .int .i64 c.hour, .int .i64 c.inn, .int .i64 c.out, .int .i64 c.store, .string c.prev, .int .i64 (signR x p ctxC (coreC c)).1, .int .i64 (signR x p ctxC (coreC c)).2]) ∧ Below w.heap.size w w' := by
  have HG := Lib.hid hg
  have HM := Lib.hid hml
  obtain ⟨A, hA⟩ : ∃ A : ByteArray, A = ⟨(coreC c).toArray⟩ := ⟨_, rfl⟩
  obtain ⟨g1, hg1⟩ : ∃ g, g = (signR x p ctxC (coreC c)).1 := ⟨_, rfl⟩
  obtain ⟨g2, hg2⟩ : ∃ g, g = (signR x p ctxC (coreC c)).2 := ⟨_, rfl⟩
  have HCo : Hid (∀ w0, MLen w0 → Calls Tryz.prog 43 #[.agg #[.int .i64 c.office, .int .i64 c.hour, .int .i64 c.inn, .int .i64 c.out, .int .i64 c.store, .string c.prev, .int .i64 c.e, .int .i64 c.s]] w0 fun e w' => e = .returned (.string A) ∧ Below w0.heap.size w0 w') := Lib.hid (fun w0 h => by
    rw [hA]
    exact coreC_any c w0 hO (by omega) h)
  have HSg : Hid (∀ w0, Glob w0 → MLen w0 → Calls Tryz.prog 42 #[.agg #[.int .i64 x, .int .i64 p], .string ⟨#[99, 108, 97, 105, 109]⟩, .string A] w0 fun e w' => e = .returned (.agg #[.int .i64 g1, .int .i64 g2]) ∧ Below w0.heap.size w0 w') := Lib.hid (fun w0 h1 h2 => by
    have h := sign_any x p ⟨#[99, 108, 97, 105, 109]⟩ A w0 (by decide) (coreC_size hO hp hA) h1 h2
    have e : A.data.toList = coreC c := by rw [hA]
    rw [e] at h
    rw [hg1, hg2]
    exact h)
  have hu : Tryz.prog.underlying 43 = some (.struct (Tryz.prog.fieldsOf 43)) := by kernel_rfl
  have hinf : (Tryz.prog.info? 43).map (·.size) = some 8 := by kernel_rfl
  rw [← hg1, ← hg2]
  obtain ⟨r0, r1, r2, rb⟩ := three_rows (w := w) (A := .cells #[.int .i64 x, .int .i64 p] 48) (B := .cells #[.int .i64 c.office, .int .i64 c.hour, .int .i64 c.inn, .int .i64 c.out, .int .i64 c.store, .string c.prev, .int .i64 c.e, .int .i64 c.s] 43) (C := .cells #[.int .i64 0, .int .i64 0, .int .i64 0, .int .i64 0, .int .i64 0, .string ⟨#[]⟩, .int .i64 0, .int .i64 0] 43)
  have HK0 := Lib.hid r0
  have HB0 := Lib.hid r1
  have HR0 := Lib.hid r2
  have HW0 := Lib.hid rb
  clear hg hml hA hg1 hg2 hO r0 r1 r2 rb hp
  go_enter Tryz.func11, Tryz.ntmps11
  go_upto_region 1 with fail
  generalize ((w.alloc (.cells #[.int .i64 x, .int .i64 p] 48)).alloc (.cells #[.int .i64 c.office, .int .i64 c.hour, .int .i64 c.inn, .int .i64 c.out, .int .i64 c.store, .string c.prev, .int .i64 c.e, .int .i64 c.s] 43)).alloc (.cells #[.int .i64 0, .int .i64 0, .int .i64 0, .int .i64 0, .int .i64 0, .string ⟨#[]⟩, .int .i64 0, .int .i64 0] 43) = w3 at *
  have HS0 : Hid (w3.drew.heap[w.heap.size]? = some (.cells #[.int .i64 x, .int .i64 p] 48) ∧ w3.drew.cell? ⟨w.heap.size, 0, none⟩ = some (.int .i64 x) ∧ w3.drew.cell? ⟨w.heap.size, 1, none⟩ = some (.int .i64 p) ∧ Below w.heap.size w w3.drew) := Lib.hid ⟨HK0.out, (cell_of_row _ _ _ _ _ _ HK0.out).trans rfl, (cell_of_row _ _ _ _ _ _ HK0.out).trans rfl, HW0.out.drew⟩
  have Bh0 : Hid (w3.drew.heap[w.heap.size + 1]? = some (.cells #[.int .i64 c.office, .int .i64 c.hour, .int .i64 c.inn, .int .i64 c.out, .int .i64 c.store, .string c.prev, .int .i64 c.e, .int .i64 c.s] 43)) := Lib.hid HB0.out
  have Rh0 : Hid (w3.drew.heap[w.heap.size + 1 + 1]? = some (.cells #[.int .i64 0, .int .i64 0, .int .i64 0, .int .i64 0, .int .i64 0, .string ⟨#[]⟩, .int .i64 0, .int .i64 0] 43)) := Lib.hid HR0.out
  clear HK0 HB0 HR0 HW0
  refine wp_region_noPanic ?_
  refine wp_region_held_drew (S := fun w' => w'.heap[w.heap.size]? = some (.cells #[.int .i64 x, .int .i64 p] 48) ∧ w'.cell? ⟨w.heap.size, 0, none⟩ = some (.int .i64 x) ∧ w'.cell? ⟨w.heap.size, 1, none⟩ = some (.int .i64 p) ∧ Below w.heap.size w w') (by kernel_rfl) HS0.out (fun hHeld => ?_)
  refine' wpAnyH_take (i := 0) (v := _) (by simp only [List.getElem?_toArray, List.getElem?_cons_zero]; exact rfl) (by kernel_rfl) (by kernel_rfl) (by kernel_rfl) (fun _ _ _ h => h) (Or.inl ⟨by rfl, ?y0x1⟩) hHeld ?r0x1
  case y0x1 => (intro w hSw; (try dsimp only at hSw); go_simp; try with_reducible rfl)
  try simp only [Act.put, List.setIfInBounds_toArray, List.set_cons_zero, List.set_cons_succ]
  refine wpAnyH_ready (rs := [1]) (by kernel_rfl) (by simp) ?_
  refine AllReadyH.cons (by simp only [List.getElem?_toArray, List.getElem?_cons_succ, List.getElem?_cons_zero]; exact rfl) (fun K hK => ?_) AllReadyH.nil
  have d0 : w3.drew.cell? ⟨w.heap.size + 1, 0, none⟩ = some (.int .i64 c.office) := (cell_of_row _ _ _ _ _ _ Bh0.out).trans rfl
  have d1 : w3.drew.cell? ⟨w.heap.size + 1, 1, none⟩ = some (.int .i64 c.hour) := (cell_of_row _ _ _ _ _ _ Bh0.out).trans rfl
  have d2 : w3.drew.cell? ⟨w.heap.size + 1, 2, none⟩ = some (.int .i64 c.inn) := (cell_of_row _ _ _ _ _ _ Bh0.out).trans rfl
  have d3 : w3.drew.cell? ⟨w.heap.size + 1, 3, none⟩ = some (.int .i64 c.out) := (cell_of_row _ _ _ _ _ _ Bh0.out).trans rfl
  have d4 : w3.drew.cell? ⟨w.heap.size + 1, 4, none⟩ = some (.int .i64 c.store) := (cell_of_row _ _ _ _ _ _ Bh0.out).trans rfl
  have d5 : w3.drew.cell? ⟨w.heap.size + 1, 5, none⟩ = some (.string c.prev) := (cell_of_row _ _ _ _ _ _ Bh0.out).trans rfl
  have d6 : w3.drew.cell? ⟨w.heap.size + 1, 6, none⟩ = some (.int .i64 c.e) := (cell_of_row _ _ _ _ _ _ Bh0.out).trans rfl
  have d7 : w3.drew.cell? ⟨w.heap.size + 1, 7, none⟩ = some (.int .i64 c.s) := (cell_of_row _ _ _ _ _ _ Bh0.out).trans rfl
  go_simp
  refine hK.out _ _ hHeld (fun hHeld => ?_)
  clear hK K d0 d1 d2 d3 d4 d5 d6 d7
  try simp only [Act.put, List.setIfInBounds_toArray, List.set_cons_zero, List.set_cons_succ]
  refine wpAnyH_ready (rs := [2]) (by kernel_rfl) (by simp) ?_
  refine AllReadyH.cons (by simp only [List.getElem?_toArray, List.getElem?_cons_succ, List.getElem?_cons_zero]; exact rfl) (fun K hK => ?_) AllReadyH.nil
  go_simp
  refine (HCo.out _ (HM.out.up hHeld.2.2.2)).mono ?_
  rintro e w4 ⟨rfl, hb⟩
  have Bh1 : Hid (w4.heap[w.heap.size + 1]? = some (.cells #[.int .i64 c.office, .int .i64 c.hour, .int .i64 c.inn, .int .i64 c.out, .int .i64 c.store, .string c.prev, .int .i64 c.e, .int .i64 c.s] 43)) := Lib.hid (blk_below Bh0.out hb (blk_lt Bh0.out))
  have Rh1 : Hid (w4.heap[w.heap.size + 1 + 1]? = some (.cells #[.int .i64 0, .int .i64 0, .int .i64 0, .int .i64 0, .int .i64 0, .string ⟨#[]⟩, .int .i64 0, .int .i64 0] 43)) := Lib.hid (blk_below Rh0.out hb (blk_lt Rh0.out))
  clear Bh0 Rh0
  refine hK.out _ _ (key_step hHeld hb) (fun hHeld => ?_)
  clear hK K hb
  try simp only [Act.put, List.setIfInBounds_toArray, List.set_cons_zero, List.set_cons_succ]
  refine wpAnyH_ready (rs := [3]) (by kernel_rfl) (by simp) ?_
  refine AllReadyH.cons (by simp only [List.getElem?_toArray, List.getElem?_cons_succ, List.getElem?_cons_zero]; exact rfl) (fun K hK => ?_) AllReadyH.nil
  go_simp
  refine (HSg.out _ (HG.out.below hHeld.2.2.2 HG.out.size) (HM.out.up hHeld.2.2.2)).mono ?_
  rintro e w5 ⟨rfl, hb⟩
  have Bh2 : Hid (w5.heap[w.heap.size + 1]? = some (.cells #[.int .i64 c.office, .int .i64 c.hour, .int .i64 c.inn, .int .i64 c.out, .int .i64 c.store, .string c.prev, .int .i64 c.e, .int .i64 c.s] 43)) := Lib.hid (blk_below Bh1.out hb (blk_lt Bh1.out))
  have Rh2 : Hid (w5.heap[w.heap.size + 1 + 1]? = some (.cells #[.int .i64 0, .int .i64 0, .int .i64 0, .int .i64 0, .int .i64 0, .string ⟨#[]⟩, .int .i64 0, .int .i64 0] 43)) := Lib.hid (blk_below Rh1.out hb (blk_lt Rh1.out))
  clear Bh1 Rh1
  refine hK.out _ _ (key_step hHeld hb) (fun hHeld => ?_)
  clear hK K hb
  try simp only [Act.put, List.setIfInBounds_toArray, List.set_cons_zero, List.set_cons_succ]
  refine' wpAnyH_take (i := 4) (v := _) (by simp only [List.getElem?_toArray, List.getElem?_cons_succ, List.getElem?_cons_zero]; exact rfl) (by kernel_rfl) (by kernel_rfl) (by kernel_rfl) (fun _ _ _ h => h) (Or.inl ⟨by rfl, ?y4x2⟩) hHeld ?r4x2
  case y4x2 => (intro w hSw; (try dsimp only at hSw); go_simp; try with_reducible rfl)
  try simp only [Act.put, List.setIfInBounds_toArray, List.set_cons_zero, List.set_cons_succ]
  refine wpAnyH_ready (rs := [5]) (by kernel_rfl) (by simp) ?_
  refine AllReadyH.cons (by simp only [List.getElem?_toArray, List.getElem?_cons_succ, List.getElem?_cons_zero]; exact rfl) (fun K hK => ?_) AllReadyH.nil
  have d6 : w5.cell? ⟨w.heap.size + 1, 6, none⟩ = some (.int .i64 c.e) := (cell_of_row _ _ _ _ _ _ Bh2.out).trans rfl
  have z6 : w5.frozen? ⟨w.heap.size + 1, 6, none⟩ = false := frozen_of_row _ _ _ _ _ Bh2.out
  have hm6 : (w5.setCell ⟨w.heap.size + 1, 6, none⟩ (.int .i64 g1)).heap[w.heap.size + 1]? = some (.cells #[.int .i64 c.office, .int .i64 c.hour, .int .i64 c.inn, .int .i64 c.out, .int .i64 c.store, .string c.prev, .int .i64 g1, .int .i64 c.s] 43 (0, 0)) := (heap_setCell_same _ _ _ _ _ _ Bh2.out).trans rfl
  have d7 : (w5.setCell ⟨w.heap.size + 1, 6, none⟩ (.int .i64 g1)).cell? ⟨w.heap.size + 1, 7, none⟩ = some (.int .i64 c.s) := (cell_of_row _ _ _ _ _ _ hm6).trans rfl
  have z7 : (w5.setCell ⟨w.heap.size + 1, 6, none⟩ (.int .i64 g1)).frozen? ⟨w.heap.size + 1, 7, none⟩ = false := frozen_of_row _ _ _ _ _ hm6
  have hm7 : ((w5.setCell ⟨w.heap.size + 1, 6, none⟩ (.int .i64 g1)).setCell ⟨w.heap.size + 1, 7, none⟩ (.int .i64 g2)).heap[w.heap.size + 1]? = some (.cells #[.int .i64 c.office, .int .i64 c.hour, .int .i64 c.inn, .int .i64 c.out, .int .i64 c.store, .string c.prev, .int .i64 g1, .int .i64 g2] 43 (0, 0)) := (heap_setCell_same _ _ _ _ _ _ hm6).trans rfl
  have hr7 : ((w5.setCell ⟨w.heap.size + 1, 6, none⟩ (.int .i64 g1)).setCell ⟨w.heap.size + 1, 7, none⟩ (.int .i64 g2)).heap[w.heap.size + 1 + 1]? = some (.cells #[.int .i64 0, .int .i64 0, .int .i64 0, .int .i64 0, .int .i64 0, .string ⟨#[]⟩, .int .i64 0, .int .i64 0] 43 (0, 0)) := by
    rw [heap_setCell_other _ _ _ _ (by show w.heap.size + 1 + 1 ≠ w.heap.size + 1; omega), heap_setCell_other _ _ _ _ (by show w.heap.size + 1 + 1 ≠ w.heap.size + 1; omega)]
    exact Rh2.out
  have HM7 := Lib.hid hm7
  have HR7 := Lib.hid hr7
  clear hm6 hm7 hr7
  go_simp
  refine hK.out _ _ (key_set (key_set hHeld (Nat.ne_of_lt (Nat.lt_succ_self _)) (Nat.le_succ _)) (Nat.ne_of_lt (Nat.lt_succ_self _)) (Nat.le_succ _)) (fun hHeld => ?_)
  have HBf := Lib.hid hHeld.2.2.2
  clear hK K d6 d7 z6 z7
  try simp only [Act.put, List.setIfInBounds_toArray, List.set_cons_zero, List.set_cons_succ]
  refine wpAnyH_done (by kernel_rfl) ?_ _
  refine NoPanic.normal ?_
  generalize (w5.setCell ⟨w.heap.size + 1, 6, none⟩ (.int .i64 g1)).setCell ⟨w.heap.size + 1, 7, none⟩ (.int .i64 g2) = w7 at *
  go_wp2_with (first | (refine wpList_load_row rfl 43 _ rfl _ rfl 43 _ _ _ HM7.out hu rfl hinf ?_) | (refine wpList_store_row rfl 43 _ _ rfl (w.heap.size + 1 + 1) #[.int .i64 c.office, .int .i64 c.hour, .int .i64 c.inn, .int .i64 c.out, .int .i64 c.store, .string c.prev, .int .i64 g1, .int .i64 g2] rfl rfl 43 _ HR7.out hinf rfl (by simp [Value.oneCell']) ?_))
  refine bodyPost_ret (v := .agg #[.int .i64 c.office, .int .i64 c.hour, .int .i64 c.inn, .int .i64 c.out, .int .i64 c.store, .string c.prev, .int .i64 g1, .int .i64 g2]) ?_ rfl ⟨rfl, ?_⟩
  · exact results_cell_row rfl _ _ _ 43 _ (0, 0) _ rfl (setRow_heap _ _ _ _ _ _ HR7.out) hu rfl hinf
  · exact below_setRow HBf.out (by omega) _
set_option maxRecDepth 100000 in
set_option maxHeartbeats 2000000 in
theorem signP_any (x p : Int) (c : PV) (w : World) (hO : POk c) (hg : Glob w) (hml : MLen w) :
    Calls Tryz.prog 15 #[.agg #[.int .i64 x, .int .i64 p], .agg #[.int .i64 c.office, .int .i64 c.since, .int .i64 c.till, .int .i64 c.litres, .int .i64 c.e, .int .i64 c.s]] w fun e w' => e = .returned (.agg #[.int .i64 c.office, .int .i64 c.since, .int .i64 c.till, .int .i64 c.litres, .int .i64 (signR x p ctxP (coreP c)).1, .int .i64 (signR x p ctxP (coreP c)).2]) ∧ Below w.heap.size w w' := by
  have HG := Lib.hid hg
  have HM := Lib.hid hml
  obtain ⟨A, hA⟩ : ∃ A : ByteArray, A = ⟨(coreP c).toArray⟩ := ⟨_, rfl⟩
  obtain ⟨g1, hg1⟩ : ∃ g, g = (signR x p ctxP (coreP c)).1 := ⟨_, rfl⟩
  obtain ⟨g2, hg2⟩ : ∃ g, g = (signR x p ctxP (coreP c)).2 := ⟨_, rfl⟩
  have HCo : Hid (∀ w0, Calls Tryz.prog 54 #[.agg #[.int .i64 c.office, .int .i64 c.since, .int .i64 c.till, .int .i64 c.litres, .int .i64 c.e, .int .i64 c.s]] w0 fun e w' => e = .returned (.string A) ∧ Below w0.heap.size w0 w') := Lib.hid (fun w0 => by
    rw [hA]
    exact coreP_any c w0 hO)
  have HSg : Hid (∀ w0, Glob w0 → MLen w0 → Calls Tryz.prog 42 #[.agg #[.int .i64 x, .int .i64 p], .string ⟨#[112, 114, 111, 109, 105, 115, 101]⟩, .string A] w0 fun e w' => e = .returned (.agg #[.int .i64 g1, .int .i64 g2]) ∧ Below w0.heap.size w0 w') := Lib.hid (fun w0 h1 h2 => by
    have h := sign_any x p ⟨#[112, 114, 111, 109, 105, 115, 101]⟩ A w0 (by decide) (coreP_size hO hA) h1 h2
    have e : A.data.toList = coreP c := by rw [hA]
    rw [e] at h
    rw [hg1, hg2]
    exact h)
  have hu : Tryz.prog.underlying 58 = some (.struct (Tryz.prog.fieldsOf 58)) := by kernel_rfl
  have hinf : (Tryz.prog.info? 58).map (·.size) = some 6 := by kernel_rfl
  rw [← hg1, ← hg2]
  obtain ⟨r0, r1, r2, rb⟩ := three_rows (w := w) (A := .cells #[.int .i64 x, .int .i64 p] 48) (B := .cells #[.int .i64 c.office, .int .i64 c.since, .int .i64 c.till, .int .i64 c.litres, .int .i64 c.e, .int .i64 c.s] 58) (C := .cells #[.int .i64 0, .int .i64 0, .int .i64 0, .int .i64 0, .int .i64 0, .int .i64 0] 58)
  have HK0 := Lib.hid r0
  have HB0 := Lib.hid r1
  have HR0 := Lib.hid r2
  have HW0 := Lib.hid rb
  clear hg hml hA hg1 hg2 hO r0 r1 r2 rb
  go_enter Tryz.func15, Tryz.ntmps15
  go_upto_region 1 with fail
  generalize ((w.alloc (.cells #[.int .i64 x, .int .i64 p] 48)).alloc (.cells #[.int .i64 c.office, .int .i64 c.since, .int .i64 c.till, .int .i64 c.litres, .int .i64 c.e, .int .i64 c.s] 58)).alloc (.cells #[.int .i64 0, .int .i64 0, .int .i64 0, .int .i64 0, .int .i64 0, .int .i64 0] 58) = w3 at *
  have HS0 : Hid (w3.drew.heap[w.heap.size]? = some (.cells #[.int .i64 x, .int .i64 p] 48) ∧ w3.drew.cell? ⟨w.heap.size, 0, none⟩ = some (.int .i64 x) ∧ w3.drew.cell? ⟨w.heap.size, 1, none⟩ = some (.int .i64 p) ∧ Below w.heap.size w w3.drew) := Lib.hid ⟨HK0.out, (cell_of_row _ _ _ _ _ _ HK0.out).trans rfl, (cell_of_row _ _ _ _ _ _ HK0.out).trans rfl, HW0.out.drew⟩
  have Bh0 : Hid (w3.drew.heap[w.heap.size + 1]? = some (.cells #[.int .i64 c.office, .int .i64 c.since, .int .i64 c.till, .int .i64 c.litres, .int .i64 c.e, .int .i64 c.s] 58)) := Lib.hid HB0.out
  have Rh0 : Hid (w3.drew.heap[w.heap.size + 1 + 1]? = some (.cells #[.int .i64 0, .int .i64 0, .int .i64 0, .int .i64 0, .int .i64 0, .int .i64 0] 58)) := Lib.hid HR0.out
  clear HK0 HB0 HR0 HW0
  refine wp_region_noPanic ?_
  refine wp_region_held_drew (S := fun w' => w'.heap[w.heap.size]? = some (.cells #[.int .i64 x, .int .i64 p] 48) ∧ w'.cell? ⟨w.heap.size, 0, none⟩ = some (.int .i64 x) ∧ w'.cell? ⟨w.heap.size, 1, none⟩ = some (.int .i64 p) ∧ Below w.heap.size w w') (by kernel_rfl) HS0.out (fun hHeld => ?_)
  refine' wpAnyH_take (i := 0) (v := _) (by simp only [List.getElem?_toArray, List.getElem?_cons_zero]; exact rfl) (by kernel_rfl) (by kernel_rfl) (by kernel_rfl) (fun _ _ _ h => h) (Or.inl ⟨by rfl, ?y0x3⟩) hHeld ?r0x3
  case y0x3 => (intro w hSw; (try dsimp only at hSw); go_simp; try with_reducible rfl)
  try simp only [Act.put, List.setIfInBounds_toArray, List.set_cons_zero, List.set_cons_succ]
  refine wpAnyH_ready (rs := [1]) (by kernel_rfl) (by simp) ?_
  refine AllReadyH.cons (by simp only [List.getElem?_toArray, List.getElem?_cons_succ, List.getElem?_cons_zero]; exact rfl) (fun K hK => ?_) AllReadyH.nil
  have d0 : w3.drew.cell? ⟨w.heap.size + 1, 0, none⟩ = some (.int .i64 c.office) := (cell_of_row _ _ _ _ _ _ Bh0.out).trans rfl
  have d1 : w3.drew.cell? ⟨w.heap.size + 1, 1, none⟩ = some (.int .i64 c.since) := (cell_of_row _ _ _ _ _ _ Bh0.out).trans rfl
  have d2 : w3.drew.cell? ⟨w.heap.size + 1, 2, none⟩ = some (.int .i64 c.till) := (cell_of_row _ _ _ _ _ _ Bh0.out).trans rfl
  have d3 : w3.drew.cell? ⟨w.heap.size + 1, 3, none⟩ = some (.int .i64 c.litres) := (cell_of_row _ _ _ _ _ _ Bh0.out).trans rfl
  have d4 : w3.drew.cell? ⟨w.heap.size + 1, 4, none⟩ = some (.int .i64 c.e) := (cell_of_row _ _ _ _ _ _ Bh0.out).trans rfl
  have d5 : w3.drew.cell? ⟨w.heap.size + 1, 5, none⟩ = some (.int .i64 c.s) := (cell_of_row _ _ _ _ _ _ Bh0.out).trans rfl
  go_simp
  refine hK.out _ _ hHeld (fun hHeld => ?_)
  clear hK K d0 d1 d2 d3 d4 d5
  try simp only [Act.put, List.setIfInBounds_toArray, List.set_cons_zero, List.set_cons_succ]
  refine wpAnyH_ready (rs := [2]) (by kernel_rfl) (by simp) ?_
  refine AllReadyH.cons (by simp only [List.getElem?_toArray, List.getElem?_cons_succ, List.getElem?_cons_zero]; exact rfl) (fun K hK => ?_) AllReadyH.nil
  go_simp
  refine (HCo.out _).mono ?_
  rintro e w4 ⟨rfl, hb⟩
  have Bh1 : Hid (w4.heap[w.heap.size + 1]? = some (.cells #[.int .i64 c.office, .int .i64 c.since, .int .i64 c.till, .int .i64 c.litres, .int .i64 c.e, .int .i64 c.s] 58)) := Lib.hid (blk_below Bh0.out hb (blk_lt Bh0.out))
  have Rh1 : Hid (w4.heap[w.heap.size + 1 + 1]? = some (.cells #[.int .i64 0, .int .i64 0, .int .i64 0, .int .i64 0, .int .i64 0, .int .i64 0] 58)) := Lib.hid (blk_below Rh0.out hb (blk_lt Rh0.out))
  clear Bh0 Rh0
  refine hK.out _ _ (key_step hHeld hb) (fun hHeld => ?_)
  clear hK K hb
  try simp only [Act.put, List.setIfInBounds_toArray, List.set_cons_zero, List.set_cons_succ]
  refine wpAnyH_ready (rs := [3]) (by kernel_rfl) (by simp) ?_
  refine AllReadyH.cons (by simp only [List.getElem?_toArray, List.getElem?_cons_succ, List.getElem?_cons_zero]; exact rfl) (fun K hK => ?_) AllReadyH.nil
  go_simp
  refine (HSg.out _ (HG.out.below hHeld.2.2.2 HG.out.size) (HM.out.up hHeld.2.2.2)).mono ?_
  rintro e w5 ⟨rfl, hb⟩
  have Bh2 : Hid (w5.heap[w.heap.size + 1]? = some (.cells #[.int .i64 c.office, .int .i64 c.since, .int .i64 c.till, .int .i64 c.litres, .int .i64 c.e, .int .i64 c.s] 58)) := Lib.hid (blk_below Bh1.out hb (blk_lt Bh1.out))
  have Rh2 : Hid (w5.heap[w.heap.size + 1 + 1]? = some (.cells #[.int .i64 0, .int .i64 0, .int .i64 0, .int .i64 0, .int .i64 0, .int .i64 0] 58)) := Lib.hid (blk_below Rh1.out hb (blk_lt Rh1.out))
  clear Bh1 Rh1
  refine hK.out _ _ (key_step hHeld hb) (fun hHeld => ?_)
  clear hK K hb
  try simp only [Act.put, List.setIfInBounds_toArray, List.set_cons_zero, List.set_cons_succ]
  refine' wpAnyH_take (i := 4) (v := _) (by simp only [List.getElem?_toArray, List.getElem?_cons_succ, List.getElem?_cons_zero]; exact rfl) (by kernel_rfl) (by kernel_rfl) (by kernel_rfl) (fun _ _ _ h => h) (Or.inl ⟨by rfl, ?y4x4⟩) hHeld ?r4x4
  case y4x4 => (intro w hSw; (try dsimp only at hSw); go_simp; try with_reducible rfl)
  try simp only [Act.put, List.setIfInBounds_toArray, List.set_cons_zero, List.set_cons_succ]
  refine wpAnyH_ready (rs := [5]) (by kernel_rfl) (by simp) ?_
  refine AllReadyH.cons (by simp only [List.getElem?_toArray, List.getElem?_cons_succ, List.getElem?_cons_zero]; exact rfl) (fun K hK => ?_) AllReadyH.nil
  have d6 : w5.cell? ⟨w.heap.size + 1, 4, none⟩ = some (.int .i64 c.e) := (cell_of_row _ _ _ _ _ _ Bh2.out).trans rfl
  have z6 : w5.frozen? ⟨w.heap.size + 1, 4, none⟩ = false := frozen_of_row _ _ _ _ _ Bh2.out
  have hm6 : (w5.setCell ⟨w.heap.size + 1, 4, none⟩ (.int .i64 g1)).heap[w.heap.size + 1]? = some (.cells #[.int .i64 c.office, .int .i64 c.since, .int .i64 c.till, .int .i64 c.litres, .int .i64 g1, .int .i64 c.s] 58 (0, 0)) := (heap_setCell_same _ _ _ _ _ _ Bh2.out).trans rfl
  have d7 : (w5.setCell ⟨w.heap.size + 1, 4, none⟩ (.int .i64 g1)).cell? ⟨w.heap.size + 1, 5, none⟩ = some (.int .i64 c.s) := (cell_of_row _ _ _ _ _ _ hm6).trans rfl
  have z7 : (w5.setCell ⟨w.heap.size + 1, 4, none⟩ (.int .i64 g1)).frozen? ⟨w.heap.size + 1, 5, none⟩ = false := frozen_of_row _ _ _ _ _ hm6
  have hm7 : ((w5.setCell ⟨w.heap.size + 1, 4, none⟩ (.int .i64 g1)).setCell ⟨w.heap.size + 1, 5, none⟩ (.int .i64 g2)).heap[w.heap.size + 1]? = some (.cells #[.int .i64 c.office, .int .i64 c.since, .int .i64 c.till, .int .i64 c.litres, .int .i64 g1, .int .i64 g2] 58 (0, 0)) := (heap_setCell_same _ _ _ _ _ _ hm6).trans rfl
  have hr7 : ((w5.setCell ⟨w.heap.size + 1, 4, none⟩ (.int .i64 g1)).setCell ⟨w.heap.size + 1, 5, none⟩ (.int .i64 g2)).heap[w.heap.size + 1 + 1]? = some (.cells #[.int .i64 0, .int .i64 0, .int .i64 0, .int .i64 0, .int .i64 0, .int .i64 0] 58 (0, 0)) := by
    rw [heap_setCell_other _ _ _ _ (by show w.heap.size + 1 + 1 ≠ w.heap.size + 1; omega), heap_setCell_other _ _ _ _ (by show w.heap.size + 1 + 1 ≠ w.heap.size + 1; omega)]
    exact Rh2.out
  have HM7 := Lib.hid hm7
  have HR7 := Lib.hid hr7
  clear hm6 hm7 hr7
  go_simp
  refine hK.out _ _ (key_set (key_set hHeld (Nat.ne_of_lt (Nat.lt_succ_self _)) (Nat.le_succ _)) (Nat.ne_of_lt (Nat.lt_succ_self _)) (Nat.le_succ _)) (fun hHeld => ?_)
  have HBf := Lib.hid hHeld.2.2.2
  clear hK K d6 d7 z6 z7
  try simp only [Act.put, List.setIfInBounds_toArray, List.set_cons_zero, List.set_cons_succ]
  refine wpAnyH_done (by kernel_rfl) ?_ _
  refine NoPanic.normal ?_
  generalize (w5.setCell ⟨w.heap.size + 1, 4, none⟩ (.int .i64 g1)).setCell ⟨w.heap.size + 1, 5, none⟩ (.int .i64 g2) = w7 at *
  go_wp2_with (first | (refine wpList_load_row rfl 58 _ rfl _ rfl 58 _ _ _ HM7.out hu rfl hinf ?_) | (refine wpList_store_row rfl 58 _ _ rfl (w.heap.size + 1 + 1) #[.int .i64 c.office, .int .i64 c.since, .int .i64 c.till, .int .i64 c.litres, .int .i64 g1, .int .i64 g2] rfl rfl 58 _ HR7.out hinf rfl (by simp [Value.oneCell']) ?_))
  refine bodyPost_ret (v := .agg #[.int .i64 c.office, .int .i64 c.since, .int .i64 c.till, .int .i64 c.litres, .int .i64 g1, .int .i64 g2]) ?_ rfl ⟨rfl, ?_⟩
  · exact results_cell_row rfl _ _ _ 58 _ (0, 0) _ rfl (setRow_heap _ _ _ _ _ _ HR7.out) hu rfl hinf
  · exact below_setRow HBf.out (by omega) _
end Go.Proofs.YtepidpegoihllaaGreatDoor

