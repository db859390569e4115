/- Texts merged: CSign Open Rd CClos Load -/
import Derived.Outline
import Derived.Laws.Rows
import Derived.Laws.ResultCell
import Derived.Test.YtjbjpkhibcnenaaGreatDoorCCore
import Derived.OpenShut
import Derived.ChangeArms
import Derived.ChangeSame
import Derived.Carry
import Derived.Deep.MidRow
import Derived.Deep.RegionHeldLaw
import Derived.Test.YtjbjpkhibcnenaaGreatDoorMix
import Derived.Test.YtjbjpkhibcnenaaGreatDoorWShelf
/- claim.Sign, PromiseSign. -/
namespace Go.Proofs.YtjbjpkhibcnenaaGreatDoor
set_option maxRecDepth 100000
set_option maxHeartbeats 2000000
open Go.RowKit
theorem three_rows {w : World} {A B C : Obj} : (((w.alloc A).alloc B).alloc C).heap[w.heap.size]? = some A ∧ (((w.alloc A).alloc B).alloc C).heap[w.heap.size + 1]? = some B ∧ (((w.alloc A).alloc B).alloc C).heap[w.heap.size + 1 + 1]? = some C ∧ Below w.heap.size w (((w.alloc A).alloc B).alloc C) := by
 have s1 : (w.alloc A).heap.size = w.heap.size + 1 := by simp
 have s2 : ((w.alloc A).alloc B).heap.size = w.heap.size + 1 + 1 := by simp
 have hC := heap_alloc_new ((w.alloc A).alloc B) C
 rw [s2] at hC
 have hB := heap_alloc_new (w.alloc A) B
 rw [s1] at hB
 have hA := heap_alloc_new w A
 have b1 : Below w.heap.size w (w.alloc A) := (Below.refl _ _).alloc (Nat.le_refl _) _
 have b2 := b1.alloc b1.size B
 have b3 := b2.alloc b2.size C
 refine ⟨?_, ?_, hC, b3⟩
 · exact blk_below (blk_below hA ((Below.refl _ _).alloc (Nat.le_refl _) B) (blk_lt hA)) ((Below.refl _ _).alloc (Nat.le_refl _) C) (by rw [s2]; omega)
 · exact blk_below hB ((Below.refl _ _).alloc (Nat.le_refl _) C) (by rw [s2]; omega)
theorem key_step {w cur w' : World} {k : Nat} {A : Obj} {u v : Value} (h : cur.heap[k]? = some A ∧ cur.cell? ⟨k, 0, none⟩ = some u ∧ cur.cell? ⟨k, 1, none⟩ = some v ∧ Below w.heap.size w cur) (hb : Below cur.heap.size cur w') :
 w'.heap[k]? = some A ∧ w'.cell? ⟨k, 0, none⟩ = some u ∧ w'.cell? ⟨k, 1, none⟩ = some v ∧ Below w.heap.size w w' := by
 obtain ⟨a, b, c, d⟩ := h
 exact ⟨blk_below a hb (blk_lt a), (hb.cell (p := ⟨k, 0, none⟩) (blk_lt a)).trans b, (hb.cell (p := ⟨k, 1, none⟩) (blk_lt a)).trans c, d.trans (hb.mono d.size)⟩
theorem key_set {w cur : World} {k b j : Nat} {A : Obj} {u v x : Value} (h : cur.heap[k]? = some A ∧ cur.cell? ⟨k, 0, none⟩ = some u ∧ cur.cell? ⟨k, 1, none⟩ = some v ∧ Below w.heap.size w cur) (hne : k ≠ b) (hle : w.heap.size ≤ b) :
 (cur.setCell ⟨b, j, none⟩ x).heap[k]? = some A ∧ (cur.setCell ⟨b, j, none⟩ x).cell? ⟨k, 0, none⟩ = some u ∧ (cur.setCell ⟨b, j, none⟩ x).cell? ⟨k, 1, none⟩ = some v ∧ Below w.heap.size w (cur.setCell ⟨b, j, none⟩ x) := by
 obtain ⟨a, c0, c1, d⟩ := h
 have e : (cur.setCell ⟨b, j, none⟩ x).heap[k]? = cur.heap[k]? := heap_setCell_other _ _ _ _ hne
 refine ⟨e.trans a, ?_, ?_, d.setCell hle _⟩
 · rw [← c0]; unfold World.cell?; rw [e]
 · rw [← c1]; unfold World.cell?; rw [e]
theorem coreC_size {c : CV} {A : ByteArray} (hO : COk c) (hp : c.prev.size ≤ 900) (hA : A = ⟨(coreC c).toArray⟩) : A.size ≤ 2000 := by
 have l2 := textL_len c.prev.data.toList
 have l3 : c.prev.data.toList.length = c.prev.size := by simp
 have h : (coreC c).length ≤ 1900 := by
  obtain ⟨h1, h2, h3, h4, h5, -⟩ := hO
  have := intL_len h1; have := intL_len h2; have := intL_len h3; have := intL_len h4; have := intL_len h5
  simp [coreC, textC]
  omega
 have h2 : A.data.toList.length ≤ 2000 := by rw [hA]; show (coreC c).length ≤ 2000; omega
 exact h2
theorem signC_any (x p : Int) (c : CV) (w : World) (hO : COk c) (hp : c.prev.size ≤ 900) (hg : Glob w) (hml : MLen w) :
 Calls Tryz.prog 49 #[.agg #[.int .i64 x, .int .i64 p], .agg #[.int .i64 c.office, .int .i64 c.hour, .int .i64 c.inn, .int .i64 c.out, .int .i64 c.store, .string c.prev, .int .i64 c.e, .int .i64 c.s]] w fun e w' => e = .returned (.agg #[.int .i64 c.office, .int .i64 c.hour, .int .i64 c.inn, .int .i64 c.out, .int .i64 c.store, .string c.prev, .int .i64 (signR x p ctxC (coreC c)).1, .int .i64 (signR x p ctxC (coreC c)).2]) ∧ Below w.heap.size w w' := by
 have HG := Lib.hid hg
 have HM := Lib.hid hml
 obtain ⟨A, hA⟩ : ∃ A : ByteArray, A = ⟨(coreC c).toArray⟩ := ⟨_, rfl⟩
 obtain ⟨g1, hg1⟩ : ∃ g, g = (signR x p ctxC (coreC c)).1 := ⟨_, rfl⟩
 obtain ⟨g2, hg2⟩ : ∃ g, g = (signR x p ctxC (coreC c)).2 := ⟨_, rfl⟩
 have HCo : Hid (∀ w0, MLen w0 → Calls Tryz.prog 86 #[.agg #[.int .i64 c.office, .int .i64 c.hour, .int .i64 c.inn, .int .i64 c.out, .int .i64 c.store, .string c.prev, .int .i64 c.e, .int .i64 c.s]] w0 fun e w' => e = .returned (.string A) ∧ Below w0.heap.size w0 w') := Lib.hid (fun w0 h => by
  rw [hA]
  exact coreC_any c w0 hO (by omega) h)
 have HSg : Hid (∀ w0, Glob w0 → MLen w0 → Calls Tryz.prog 85 #[.agg #[.int .i64 x, .int .i64 p], .string ⟨#[99, 108, 97, 105, 109]⟩, .string A] w0 fun e w' => e = .returned (.agg #[.int .i64 g1, .int .i64 g2]) ∧ Below w0.heap.size w0 w') := Lib.hid (fun w0 h1 h2 => by
  have h := sign_any x p ⟨#[99, 108, 97, 105, 109]⟩ A w0 (by decide) (coreC_size hO hp hA) h1 h2
  have e : A.data.toList = coreC c := by rw [hA]
  rw [e] at h
  rw [hg1, hg2]
  exact h)
 have hu : Tryz.prog.underlying 63 = some (.struct (Tryz.prog.fieldsOf 63)) := by kernel_rfl
 have hinf : (Tryz.prog.info? 63).map (·.size) = some 8 := by kernel_rfl
 rw [← hg1, ← hg2]
 obtain ⟨r0, r1, r2, rb⟩ := three_rows (w := w) (A := .cells #[.int .i64 x, .int .i64 p] 73) (B := .cells #[.int .i64 c.office, .int .i64 c.hour, .int .i64 c.inn, .int .i64 c.out, .int .i64 c.store, .string c.prev, .int .i64 c.e, .int .i64 c.s] 63) (C := .cells #[.int .i64 0, .int .i64 0, .int .i64 0, .int .i64 0, .int .i64 0, .string ⟨#[]⟩, .int .i64 0, .int .i64 0] 63)
 have HK0 := Lib.hid r0
 have HB0 := Lib.hid r1
 have HR0 := Lib.hid r2
 have HW0 := Lib.hid rb
 clear hg hml hA hg1 hg2 hO r0 r1 r2 rb hp
 go_enter Tryz.func49, Tryz.ntmps49
 go_upto_region 1 with fail
 generalize ((w.alloc (.cells #[.int .i64 x, .int .i64 p] 73)).alloc (.cells #[.int .i64 c.office, .int .i64 c.hour, .int .i64 c.inn, .int .i64 c.out, .int .i64 c.store, .string c.prev, .int .i64 c.e, .int .i64 c.s] 63)).alloc (.cells #[.int .i64 0, .int .i64 0, .int .i64 0, .int .i64 0, .int .i64 0, .string ⟨#[]⟩, .int .i64 0, .int .i64 0] 63) = w3 at *
 have HS0 : Hid (w3.drew.heap[w.heap.size]? = some (.cells #[.int .i64 x, .int .i64 p] 73) ∧ w3.drew.cell? ⟨w.heap.size, 0, none⟩ = some (.int .i64 x) ∧ w3.drew.cell? ⟨w.heap.size, 1, none⟩ = some (.int .i64 p) ∧ Below w.heap.size w w3.drew) := Lib.hid ⟨HK0.out, (cell_of_row _ _ _ _ _ _ HK0.out).trans rfl, (cell_of_row _ _ _ _ _ _ HK0.out).trans rfl, HW0.out.drew⟩
 have Bh0 : Hid (w3.drew.heap[w.heap.size + 1]? = some (.cells #[.int .i64 c.office, .int .i64 c.hour, .int .i64 c.inn, .int .i64 c.out, .int .i64 c.store, .string c.prev, .int .i64 c.e, .int .i64 c.s] 63)) := Lib.hid HB0.out
 have Rh0 : Hid (w3.drew.heap[w.heap.size + 1 + 1]? = some (.cells #[.int .i64 0, .int .i64 0, .int .i64 0, .int .i64 0, .int .i64 0, .string ⟨#[]⟩, .int .i64 0, .int .i64 0] 63)) := Lib.hid HR0.out
 clear HK0 HB0 HR0 HW0
 refine wp_region_noPanic ?_
 refine wp_region_held_drew (S := fun w' => w'.heap[w.heap.size]? = some (.cells #[.int .i64 x, .int .i64 p] 73) ∧ w'.cell? ⟨w.heap.size, 0, none⟩ = some (.int .i64 x) ∧ w'.cell? ⟨w.heap.size, 1, none⟩ = some (.int .i64 p) ∧ Below w.heap.size w w') (by kernel_rfl) HS0.out (fun hHeld => ?_)
 refine tm 0 ?_
 refine wpAnyH_ready (rs := [1]) (by kernel_rfl) (by simp) ?_
 refine AllReadyH.cons (by simp only [List.getElem?_toArray, List.getElem?_cons_succ, List.getElem?_cons_zero]; exact rfl) (fun K hK => ?_) AllReadyH.nil
 have d0 : w3.drew.cell? ⟨w.heap.size + 1, 0, none⟩ = some (.int .i64 c.office) := (cell_of_row _ _ _ _ _ _ Bh0.out).trans rfl
 have d1 : w3.drew.cell? ⟨w.heap.size + 1, 1, none⟩ = some (.int .i64 c.hour) := (cell_of_row _ _ _ _ _ _ Bh0.out).trans rfl
 have d2 : w3.drew.cell? ⟨w.heap.size + 1, 2, none⟩ = some (.int .i64 c.inn) := (cell_of_row _ _ _ _ _ _ Bh0.out).trans rfl
 have d3 : w3.drew.cell? ⟨w.heap.size + 1, 3, none⟩ = some (.int .i64 c.out) := (cell_of_row _ _ _ _ _ _ Bh0.out).trans rfl
 have d4 : w3.drew.cell? ⟨w.heap.size + 1, 4, none⟩ = some (.int .i64 c.store) := (cell_of_row _ _ _ _ _ _ Bh0.out).trans rfl
 have d5 : w3.drew.cell? ⟨w.heap.size + 1, 5, none⟩ = some (.string c.prev) := (cell_of_row _ _ _ _ _ _ Bh0.out).trans rfl
 have d6 : w3.drew.cell? ⟨w.heap.size + 1, 6, none⟩ = some (.int .i64 c.e) := (cell_of_row _ _ _ _ _ _ Bh0.out).trans rfl
 have d7 : w3.drew.cell? ⟨w.heap.size + 1, 7, none⟩ = some (.int .i64 c.s) := (cell_of_row _ _ _ _ _ _ Bh0.out).trans rfl
 go_simp
 refine hK.out _ _ hHeld (fun hHeld => ?_)
 clear hK K d0 d1 d2 d3 d4 d5 d6 d7
 try simp only [Act.put, List.setIfInBounds_toArray, List.set_cons_zero, List.set_cons_succ]
 refine wpAnyH_ready (rs := [2]) (by kernel_rfl) (by simp) ?_
 refine AllReadyH.cons (by simp only [List.getElem?_toArray, List.getElem?_cons_succ, List.getElem?_cons_zero]; exact rfl) (fun K hK => ?_) AllReadyH.nil
 go_simp
 refine (HCo.out _ (HM.out.up hHeld.2.2.2)).mono ?_
 rintro e w4 ⟨rfl, hb⟩
 have Bh1 : Hid (w4.heap[w.heap.size + 1]? = some (.cells #[.int .i64 c.office, .int .i64 c.hour, .int .i64 c.inn, .int .i64 c.out, .int .i64 c.store, .string c.prev, .int .i64 c.e, .int .i64 c.s] 63)) := Lib.hid (blk_below Bh0.out hb (blk_lt Bh0.out))
 have Rh1 : Hid (w4.heap[w.heap.size + 1 + 1]? = some (.cells #[.int .i64 0, .int .i64 0, .int .i64 0, .int .i64 0, .int .i64 0, .string ⟨#[]⟩, .int .i64 0, .int .i64 0] 63)) := Lib.hid (blk_below Rh0.out hb (blk_lt Rh0.out))
 clear Bh0 Rh0
 refine hK.out _ _ (key_step hHeld hb) (fun hHeld => ?_)
 clear hK K hb
 try simp only [Act.put, List.setIfInBounds_toArray, List.set_cons_zero, List.set_cons_succ]
 refine wpAnyH_ready (rs := [3]) (by kernel_rfl) (by simp) ?_
 refine AllReadyH.cons (by simp only [List.getElem?_toArray, List.getElem?_cons_succ, List.getElem?_cons_zero]; exact rfl) (fun K hK => ?_) AllReadyH.nil
 go_simp
 refine (HSg.out _ (HG.out.below hHeld.2.2.2 HG.out.size) (HM.out.up hHeld.2.2.2)).mono ?_
 rintro e w5 ⟨rfl, hb⟩
 have Bh2 : Hid (w5.heap[w.heap.size + 1]? = some (.cells #[.int .i64 c.office, .int .i64 c.hour, .int .i64 c.inn, .int .i64 c.out, .int .i64 c.store, .string c.prev, .int .i64 c.e, .int .i64 c.s] 63)) := Lib.hid (blk_below Bh1.out hb (blk_lt Bh1.out))
 have Rh2 : Hid (w5.heap[w.heap.size + 1 + 1]? = some (.cells #[.int .i64 0, .int .i64 0, .int .i64 0, .int .i64 0, .int .i64 0, .string ⟨#[]⟩, .int .i64 0, .int .i64 0] 63)) := Lib.hid (blk_below Rh1.out hb (blk_lt Rh1.out))
 clear Bh1 Rh1
 refine hK.out _ _ (key_step hHeld hb) (fun hHeld => ?_)
 clear hK K hb
 try simp only [Act.put, List.setIfInBounds_toArray, List.set_cons_zero, List.set_cons_succ]
 refine tm 4 ?_
 refine wpAnyH_ready (rs := [5]) (by kernel_rfl) (by simp) ?_
 refine AllReadyH.cons (by simp only [List.getElem?_toArray, List.getElem?_cons_succ, List.getElem?_cons_zero]; exact rfl) (fun K hK => ?_) AllReadyH.nil
 have d6 : w5.cell? ⟨w.heap.size + 1, 6, none⟩ = some (.int .i64 c.e) := (cell_of_row _ _ _ _ _ _ Bh2.out).trans rfl
 have z6 : w5.frozen? ⟨w.heap.size + 1, 6, none⟩ = false := frozen_of_row _ _ _ _ _ Bh2.out
 have hm6 : (w5.setCell ⟨w.heap.size + 1, 6, none⟩ (.int .i64 g1)).heap[w.heap.size + 1]? = some (.cells #[.int .i64 c.office, .int .i64 c.hour, .int .i64 c.inn, .int .i64 c.out, .int .i64 c.store, .string c.prev, .int .i64 g1, .int .i64 c.s] 63 (0, 0)) := (heap_setCell_same _ _ _ _ _ _ Bh2.out).trans rfl
 have d7 : (w5.setCell ⟨w.heap.size + 1, 6, none⟩ (.int .i64 g1)).cell? ⟨w.heap.size + 1, 7, none⟩ = some (.int .i64 c.s) := (cell_of_row _ _ _ _ _ _ hm6).trans rfl
 have z7 : (w5.setCell ⟨w.heap.size + 1, 6, none⟩ (.int .i64 g1)).frozen? ⟨w.heap.size + 1, 7, none⟩ = false := frozen_of_row _ _ _ _ _ hm6
 have hm7 : ((w5.setCell ⟨w.heap.size + 1, 6, none⟩ (.int .i64 g1)).setCell ⟨w.heap.size + 1, 7, none⟩ (.int .i64 g2)).heap[w.heap.size + 1]? = some (.cells #[.int .i64 c.office, .int .i64 c.hour, .int .i64 c.inn, .int .i64 c.out, .int .i64 c.store, .string c.prev, .int .i64 g1, .int .i64 g2] 63 (0, 0)) := (heap_setCell_same _ _ _ _ _ _ hm6).trans rfl
 have hr7 : ((w5.setCell ⟨w.heap.size + 1, 6, none⟩ (.int .i64 g1)).setCell ⟨w.heap.size + 1, 7, none⟩ (.int .i64 g2)).heap[w.heap.size + 1 + 1]? = some (.cells #[.int .i64 0, .int .i64 0, .int .i64 0, .int .i64 0, .int .i64 0, .string ⟨#[]⟩, .int .i64 0, .int .i64 0] 63 (0, 0)) := by
  rw [heap_setCell_other _ _ _ _ (by show w.heap.size + 1 + 1 ≠ w.heap.size + 1; omega), heap_setCell_other _ _ _ _ (by show w.heap.size + 1 + 1 ≠ w.heap.size + 1; omega)]
  exact Rh2.out
 have HM7 := Lib.hid hm7
 have HR7 := Lib.hid hr7
 clear hm6 hm7 hr7
 go_simp
 refine hK.out _ _ (key_set (key_set hHeld (Nat.ne_of_lt (Nat.lt_succ_self _)) (Nat.le_succ _)) (Nat.ne_of_lt (Nat.lt_succ_self _)) (Nat.le_succ _)) (fun hHeld => ?_)
 have HBf := Lib.hid hHeld.2.2.2
 clear hK K d6 d7 z6 z7
 try simp only [Act.put, List.setIfInBounds_toArray, List.set_cons_zero, List.set_cons_succ]
 refine wpAnyH_done (by kernel_rfl) ?_ _
 refine NoPanic.normal ?_
 generalize (w5.setCell ⟨w.heap.size + 1, 6, none⟩ (.int .i64 g1)).setCell ⟨w.heap.size + 1, 7, none⟩ (.int .i64 g2) = w7 at *
 go_wp2_with (first | (refine wpList_load_row rfl 63 _ rfl _ rfl 63 _ _ _ HM7.out hu rfl hinf ?_) | (refine wpList_store_row rfl 63 _ _ rfl (w.heap.size + 1 + 1) #[.int .i64 c.office, .int .i64 c.hour, .int .i64 c.inn, .int .i64 c.out, .int .i64 c.store, .string c.prev, .int .i64 g1, .int .i64 g2] rfl rfl 63 _ HR7.out hinf rfl (by simp [Value.oneCell']) ?_))
 refine bodyPost_ret (v := .agg #[.int .i64 c.office, .int .i64 c.hour, .int .i64 c.inn, .int .i64 c.out, .int .i64 c.store, .string c.prev, .int .i64 g1, .int .i64 g2]) ?_ rfl ⟨rfl, ?_⟩
 · exact results_cell_row rfl _ _ _ 63 _ (0, 0) _ rfl (setRow_heap _ _ _ _ _ _ HR7.out) hu rfl hinf
 · exact below_setRow HBf.out (by omega) _
end Go.Proofs.YtjbjpkhibcnenaaGreatDoor
/- Arguments that came in, opened along their types: integers, bools, strings, slices, structs. For any program. -/
namespace Go.Proofs.YtjbjpkhibcnenaaGreatDoor
/-- the cells cs can be read at type t in w -/
def Rd (P : Program) (w : World) (t : TypeId) (cs : List Value) : Prop :=
 ∃ (H : Type) (enc : TypeId × Value → H) (n : Nat) (x : DataW H × List MemPlace), DataW.trod enc P w 0 (fun _ => true) true n t cs = some x
theorem Rd.of_trod {H : Type} {enc : TypeId × Value → H} {P : Program} {w : World} {t : TypeId} {v : Value} {d : DataW H} {ps : List MemPlace} (h : DataW.Trod enc P w 0 (fun _ => true) true t v d ps) : Rd P w t v.cells.toList := by
 obtain ⟨n, h⟩ := h
 exact ⟨H, enc, n, _, h⟩
theorem Rd.int {P : Program} {w : World} {t : TypeId} {cs : List Value} {k : IntKind} (ht : P.underlying t = some (.int k)) (h : Rd P w t cs) : ∃ n, cs = [.int k n] ∧ (Lit.int k n).wf = true := by
 obtain ⟨H, enc, n, x, h⟩ := h
 obtain ⟨n, h1, _, h2⟩ := DataW.trod_int ht h
 exact ⟨n, h1, h2⟩
theorem Rd.i64 {P : Program} {w : World} {t : TypeId} {cs : List Value} (ht : P.underlying t = some (.int .i64)) (h : Rd P w t cs) : ∃ n : Int, cs = [.int .i64 n] ∧ -9223372036854775808 ≤ n ∧ n ≤ 9223372036854775807 := by
 obtain ⟨n, h1, h2⟩ := h.int ht
 refine ⟨n, h1, ?_⟩
 simpa [Lit.wf, IntKind.min, IntKind.max, IntKind.signed, IntKind.bits] using h2
theorem Rd.str {P : Program} {w : World} {t : TypeId} {cs : List Value} (ht : P.underlying t = some .string) (h : Rd P w t cs) : ∃ s : ByteArray, cs = [.string s] ∧ s.size ≤ maxLen := by
 obtain ⟨H, enc, n, x, h⟩ := h
 obtain ⟨s, h1, _, h2⟩ := DataW.trod_string ht h
 exact ⟨s, h1, h2⟩
theorem trod_bool {H : Type} {enc : TypeId × Value → H} {P : Program} {w : World} {base : Nat} {spare : Nat → Bool} {held : Bool} {fuel : Nat} {t : TypeId} {cs : List Value} {x : DataW H × List MemPlace}
 (ht : P.underlying t = some .bool) (h : DataW.trod enc P w base spare held fuel t cs = some x) : ∃ b, cs = [.bool b] := by
 cases fuel with
 | zero => simp [DataW.trod] at h
 | succ n =>
  unfold DataW.trod at h
  rw [ht] at h
  split at h <;> simp_all
theorem Rd.bool {P : Program} {w : World} {t : TypeId} {cs : List Value} (ht : P.underlying t = some .bool) (h : Rd P w t cs) : ∃ b, cs = [.bool b] := by
 obtain ⟨H, enc, n, x, h⟩ := h
 exact trod_bool ht h
theorem cells_at {w : World} {a : Addr} {n : Nat} {cs : List Value} (h : w.cells? 0 a n = some cs) : cs.length = n ∧ ∀ j u, cs[j]? = some u → w.cell? (a.add j) = some u := by
 obtain ⟨_, hl, hc⟩ := World.cells?_some h
 refine ⟨hl, fun j u hj => ?_⟩
 have hjl : j < n := by have := (List.getElem?_eq_some_iff.1 hj).1; omega
 rw [← hj]
 exact hc j hjl
theorem Rd.slice {P : Program} {w : World} {t e : TypeId} {cs : List Value} (ht : P.underlying t = some (.slice e)) (h : Rd P w t cs) :
 cs = [.slice none 0 0] ∨ ∃ (a : Addr) (len cap : Nat), cs = [.slice (some a) len cap] ∧ len ≤ cap ∧ cap ≤ maxLen ∧
  ∀ i, i < len → ∃ cs', Rd P w e cs' ∧ cs'.length = P.cellsOf e ∧ ∀ j u, cs'[j]? = some u → w.cell? ((a.add (i * P.cellsOf e)).add j) = some u := by
 obtain ⟨H, enc, n, x, h⟩ := h
 rcases DataW.trod_slice ht h with ⟨h0, _⟩ | ⟨a, len, cap, elems, rest, n, _, rfl, _, _, hl, hm, hlen, hel, _, _⟩
 · exact Or.inl h0
 ·
  refine Or.inr ⟨a, len, cap, rfl, hl, hm, fun i hi => ?_⟩
  have h1 := hel i hi
  rw [List.getElem?_eq_getElem (by omega)] at h1
  obtain ⟨cs', h2, h3⟩ := Option.bind_eq_some_iff.1 h1
  obtain ⟨h4, h5⟩ := cells_at h2
  exact ⟨cs', ⟨H, enc, n, _, h3⟩, h4, h5⟩
theorem Rd.struct {P : Program} {w : World} {t : TypeId} {fs : Array Field} {cs : List Value} (ht : P.underlying t = some (.struct fs)) (h : Rd P w t cs) :
 cs.length = P.cellsOf t ∧ ∀ (i : Nat) (f : Field), fs[i]? = some f → Rd P w f.type ((cs.drop f.offset).take (P.cellsOf f.type)) := by
 obtain ⟨H, enc, n, x, h⟩ := h
 obtain ⟨xs, n, _, _, hl, hlen, hf⟩ := DataW.trod_struct ht h
 refine ⟨hl, fun i f hi => ?_⟩
 have h1 := hf i f hi
 have hil : i < xs.length := by have := (Array.getElem?_eq_some_iff.1 hi).1; omega
 rw [List.getElem?_eq_getElem hil] at h1
 exact ⟨H, enc, n, _, h1⟩
theorem cell_lt' {w : World} {a : Addr} {v : Value} (h : w.cell? a = some v) : a.block < w.heap.size := by
 rcases Nat.lt_or_ge a.block w.heap.size with h' | h'
 · exact h'
 · simp [World.cell?, Array.getElem?_eq_none h'] at h
end Go.Proofs.YtjbjpkhibcnenaaGreatDoor
/- What came in, read along its types: lists of anything, and that they stay as they are. -/
namespace Go.Proofs.YtjbjpkhibcnenaaGreatDoor
open Go.RowKit
/-- v is a slice of l, anywhere in a block that exists; its elements have size cells and read as R says -/
def LArg {α : Type} (R : α → List Value → World → Prop) (size : Nat) (v : Value) (l : List α) (w : World) : Prop :=
 ∃ a c, v = .slice a l.length c ∧ l.length ≤ c ∧ c ≤ maxLen ∧
  ∀ j x, l[j]? = some x → ∃ b o cs, a = some ⟨b, o, none⟩ ∧ b < w.heap.size ∧ cs.length = size ∧ w.rangeAt b (o + j * size) cs ∧ R x cs w
/-- what R reads stays as it is -/
def Stays {α : Type} (R : α → List Value → World → Prop) : Prop := ∀ x cs w w', R x cs w → Below w.heap.size w w' → R x cs w'
theorem range_below {w w' : World} {b o : Nat} {cs : List Value} (h : w.rangeAt b o cs) (hb : Below w.heap.size w w') (hlt : b < w.heap.size) : w'.rangeAt b o cs :=
 fun j v hj => (hb.cell (p := ⟨b, o + j, none⟩) hlt).trans (h j v hj)
theorem LArg.below {α : Type} {R : α → List Value → World → Prop} {size : Nat} {v : Value} {l : List α} {w w' : World} (hR : Stays R) (h : LArg R size v l w) (hb : Below w.heap.size w w') : LArg R size v l w' := by
 obtain ⟨a, c, h1, h2, h3, h⟩ := h
 refine ⟨a, c, h1, h2, h3, fun j x hj => ?_⟩
 obtain ⟨b, o, cs, e1, e2, e3, e4, e5⟩ := h j x hj
 exact ⟨b, o, cs, e1, Nat.lt_of_lt_of_le e2 hb.size, e3, range_below e4 hb e2, hR x cs w w' e5 hb⟩
theorem LArg.slice {α : Type} {R : α → List Value → World → Prop} {size : Nat} {v : Value} {l : List α} {w : World} (h : LArg R size v l w) : ∃ a c, v = .slice a l.length c ∧ l.length ≤ c ∧ c ≤ maxLen := by
 obtain ⟨a, c, h1, h2, h3, _⟩ := h
 exact ⟨a, c, h1, h2, h3⟩
theorem LArg.at {α : Type} {R : α → List Value → World → Prop} {size : Nat} {l : List α} {w : World} {a : Option Addr} {n c : Nat} (h : LArg R size (.slice a n c) l w) {j : Nat} {x : α} (hx : l[j]? = some x) :
 ∃ b o cs, a = some ⟨b, o, none⟩ ∧ b < w.heap.size ∧ cs.length = size ∧ w.rangeAt b (o + j * size) cs ∧ R x cs w := by
 obtain ⟨a', c', h1, _, _, h⟩ := h
 simp only [Value.slice.injEq] at h1
 rw [h1.1]
 exact h j x hx
theorem choose_list {α : Type} (P : Nat → α → Prop) (n : Nat) (h : ∀ i, i < n → ∃ x, P i x) : ∃ xs : List α, xs.length = n ∧ ∀ (i : Nat) x, xs[i]? = some x → P i x := by
 induction n with
 | zero => exact ⟨[], rfl, fun i x hx => by simp at hx⟩
 | succ n ih =>
  obtain ⟨xs, hl, hx⟩ := ih (fun i hi => h i (by omega))
  obtain ⟨y, hy⟩ := h n (by omega)
  refine ⟨xs ++ [y], by simp [hl], fun i x hi => ?_⟩
  by_cases hin : i < n
  ·
   rw [List.getElem?_append_left (by omega)] at hi
   exact hx i x hi
  ·
   rw [List.getElem?_append_right (by omega)] at hi
   have : i - xs.length = 0 := by
    have := (List.getElem?_eq_some_iff.1 hi).1
    simp at this
    omega
   rw [this] at hi
   simp only [List.getElem?_cons_zero, Option.some.injEq] at hi
   subst hi
   have : i = n := by omega
   subst this
   exact hy
theorem spot_mid {w : World} {a : Addr} {v : Value} (h : w.cell? a = some v) : a = ⟨a.block, a.off, none⟩ := by
 obtain ⟨b, o, s⟩ := a
 cases s with
 | none => rfl
 | some k =>
  simp only [World.cell?, Option.isSome_some, if_true] at h
  split at h <;> cases h
theorem LArg.of_rd {P : Program} {w : World} {t e : TypeId} {v : Value} {α : Type} {R : α → List Value → World → Prop} {size : Nat} (hu : P.underlying t = some (.slice e)) (hs : P.cellsOf e = size) (h0 : 0 < size)
 (hR : ∀ cs, Rd P w e cs → ∃ x, R x cs w) (h : Rd P w t [v]) : ∃ l, LArg R size v l w := by
 rcases h.slice hu with h1 | ⟨a, len, cap, h1, hl, hm, hel⟩
 · exact ⟨[], none, 0, (List.cons.inj h1).1, Nat.le_refl _, Nat.zero_le _, fun j x hj => by simp at hj⟩
 ·
  have h1' := (List.cons.inj h1).1
  obtain ⟨xs, hxl, hx⟩ := choose_list (fun i (x : α) => ∃ b o cs, a = ⟨b, o, none⟩ ∧ b < w.heap.size ∧ cs.length = size ∧ w.rangeAt b (o + i * size) cs ∧ R x cs w) len (fun i hi => by
   obtain ⟨cs, h1, h2, h3⟩ := hel i hi
   rw [hs] at h2 h3
   obtain ⟨x, hx⟩ := hR cs h1
   obtain ⟨cs0, _, hl0, h30⟩ := hel 0 (by omega)
   rw [hs] at hl0 h30
   have hsp : a = ⟨a.block, a.off, none⟩ := by
    have := h30 0 (cs0[0]'(by omega)) (List.getElem?_eq_getElem (by omega))
    simp only [Nat.zero_mul, Addr.add, if_true] at this
    exact spot_mid this
   refine ⟨x, a.block, a.off, cs, hsp, ?_, h2, ?_, hx⟩
   ·
    have := cell_lt' (h3 0 _ (List.getElem?_eq_getElem (by omega)))
    rw [hsp, Addr.add_mid, Addr.add_mid] at this
    exact this
   ·
    intro j u hj
    have := h3 j u hj
    rw [hsp, Addr.add_mid, Addr.add_mid] at this
    exact this)
  refine ⟨xs, some a, cap, by rw [hxl]; exact h1', by omega, hm, fun j x hj => ?_⟩
  obtain ⟨b, o, cs, e1, e2⟩ := hx j x hj
  exact ⟨b, o, cs, by rw [e1], e2⟩
/-- an integer's cell -/
def RInt (x : Int) (cs : List Value) (_ : World) : Prop := cs = [.int .i64 x] ∧ -9223372036854775808 ≤ x ∧ x ≤ 9223372036854775807
def RStr (x : ByteArray) (cs : List Value) (_ : World) : Prop := cs = [.string x] ∧ x.size ≤ maxLen
def RList {α : Type} (R : α → List Value → World → Prop) (size : Nat) (l : List α) (cs : List Value) (w : World) : Prop := ∃ v, cs = [v] ∧ LArg R size v l w
theorem stays_int : Stays RInt := fun _ _ _ _ h _ => h
theorem rint_of_rd {P : Program} {w : World} {t : TypeId} (ht : P.underlying t = some (.int .i64)) (cs : List Value) (h : Rd P w t cs) : ∃ x, RInt x cs w := by
 obtain ⟨n, h1, h2⟩ := h.i64 ht
 exact ⟨n, h1, h2⟩
theorem rstr_of_rd {P : Program} {w : World} {t : TypeId} (ht : P.underlying t = some .string) (cs : List Value) (h : Rd P w t cs) : ∃ x, RStr x cs w := by
 obtain ⟨n, h1, h2⟩ := h.str ht
 exact ⟨n, h1, h2⟩
theorem rlist_of_rd {P : Program} {w : World} {t e : TypeId} {α : Type} {R : α → List Value → World → Prop} {size : Nat} (hu : P.underlying t = some (.slice e)) (hs : P.cellsOf e = size) (h0 : 0 < size)
 (hR : ∀ cs, Rd P w e cs → ∃ x, R x cs w) (cs : List Value) (h : Rd P w t cs) : ∃ l, RList R size l cs w := by
 have hv : ∃ v, cs = [v] := by
  rcases h.slice hu with h1 | ⟨a, len, cap, h1, _⟩
  · exact ⟨_, h1⟩
  · exact ⟨_, h1⟩
 obtain ⟨v, rfl⟩ := hv
 obtain ⟨l, hl⟩ := LArg.of_rd hu hs h0 hR h
 exact ⟨l, v, rfl, hl⟩
theorem field_of {fs : Array Field} {L : Array (TypeId × Nat)} (h : (fs.map fun f => (f.type, f.offset)) = L) {i : Nat} {t : TypeId} {o : Nat} (hp : L[i]? = some (t, o)) : ∃ f, fs[i]? = some f ∧ f.type = t ∧ f.offset = o := by
 rw [← h, Array.getElem?_map, Option.map_eq_some_iff] at hp
 obtain ⟨f, hf, he⟩ := hp
 simp only [Prod.mk.injEq] at he
 exact ⟨f, hf, he.1, he.2⟩
/-- a struct's field, read -/
theorem Rd.field {P : Program} {w : World} {t : TypeId} {L : Array (TypeId × Nat)} {cs : List Value} (h : Rd P w t cs) (hs : (match P.underlying t with | some (.struct fs) => some (fs.map fun f => (f.type, f.offset)) | _ => none) = some L)
 {i : Nat} {u : TypeId} {o size : Nat} (hp : L[i]? = some (u, o)) (hc : P.cellsOf u = size) : Rd P w u ((cs.drop o).take size) := by
 split at hs
 ·
  next fs hu =>
  obtain ⟨f, hf, ht, ho⟩ := field_of (Option.some.inj hs) hp
  have := (h.struct hu).2 i f hf
  rw [ht, ho, hc] at this
  exact this
 · cases hs
theorem Rd.len {P : Program} {w : World} {t : TypeId} {L : Array (TypeId × Nat)} {cs : List Value} (h : Rd P w t cs) (hs : (match P.underlying t with | some (.struct fs) => some (fs.map fun f => (f.type, f.offset)) | _ => none) = some L) : cs.length = P.cellsOf t := by
 split at hs
 · next fs hu => exact (h.struct hu).1
 · cases hs
end Go.Proofs.YtjbjpkhibcnenaaGreatDoor
/- The conditions of claim.Chain. -/
namespace Go.Proofs.YtjbjpkhibcnenaaGreatDoor
open Go.RowKit
def cellsC (c : CV) : List Value := [.int .i64 c.office, .int .i64 c.hour, .int .i64 c.inn, .int .i64 c.out, .int .i64 c.store, .string c.prev, .int .i64 c.e, .int .i64 c.s]
/-- a claim's cells -/
def RC (c : CV) (cs : List Value) (_ : World) : Prop := cs = cellsC c ∧ COk c ∧ c.prev.size ≤ maxLen
theorem stays_RC : Stays RC := fun _ _ _ _ h _ => h
/-- what Chain's conditions see: two variables that hold slices -/
structure ChCtx (ps : List Int) (l : List CV) (Pb Lb : Nat) (vp vl : Value) (w : World) : Prop where
 hP : w.heap[Pb]? = some (.cells #[vp] 29)
 hL : w.heap[Lb]? = some (.cells #[vl] 33)
 lp : LArg RInt 1 vp ps w
 ll : LArg RC 8 vl l w
theorem ChCtx.below {ps : List Int} {l : List CV} {Pb Lb : Nat} {vp vl : Value} {w w' : World} (h : ChCtx ps l Pb Lb vp vl w) (hb : Below w.heap.size w w') : ChCtx ps l Pb Lb vp vl w' :=
 ⟨blk_below h.hP hb (blk_lt h.hP), blk_below h.hL hb (blk_lt h.hL), h.lp.below stays_int hb, h.ll.below stays_RC hb⟩
theorem ChCtx.pub {ps : List Int} {l : List CV} {Pb Lb : Nat} {vl : Value} {al : Option Addr} {n k : Nat} {w : World} (h : ChCtx ps l Pb Lb (.slice al n k) vl w) {i : Nat} {x : Int} (hc : ps[i]? = some x) :
 ∃ b o, al = some ⟨b, o, none⟩ ∧ n = ps.length ∧ n ≤ k ∧ b < w.heap.size ∧ w.cell? ⟨b, o + i, none⟩ = some (.int .i64 x) ∧ I64 x := by
 obtain ⟨b, o, cs, h1, h2, h3, h4, h5⟩ := h.lp.at hc
 obtain ⟨a, c2, e, h6, _⟩ := h.lp.slice
 simp only [Value.slice.injEq] at e
 rw [h5.1] at h4
 refine ⟨b, o, h1, e.2.1, by omega, h2, ?_, h5.2⟩
 have h7 := h4 0 _ rfl
 rw [Nat.mul_one, Nat.add_zero] at h7
 exact h7
end Go.Proofs.YtjbjpkhibcnenaaGreatDoor
/- Loads of structs, whole or from the middle of a block (walks and drawn regions). -/
namespace Go.Proofs.YtjbjpkhibcnenaaGreatDoor
open Go.RowKit
theorem rowN {w : World} {b : Nat} {cs : Array Value} {t : TypeId} (h : w.heap[b]? = some (.cells cs t (0, 0))) : ∀ j (v : Value), cs[j]? = some v → w.cell? ⟨b, j, none⟩ = some v := fun j v hj => by
 rw [cell_of_row _ _ _ _ _ _ h]
 exact hj
theorem run_loadVar_range {P : Program} (w : World) (b o : Nat) (ty : TypeId) (cs : List Value) (d : TypeDesc) (h : w.rangeAt b o cs)
 (hu : P.underlying ty = some d) (hd : (match d with | .struct _ | .array _ _ => true | _ => false) = true) (hi : (P.info? ty).map (·.size) = some cs.length) :
 (loadVar ty ⟨b, o, none⟩).run P w = .ok (.agg cs.toArray) w := by
 have hl : (loadCells ⟨b, o, none⟩ cs.length).run P w = .ok cs.toArray w :=
  run_loadCells_list (P := P) w ⟨b, o, none⟩ cs (fun j v hv => by
   rw [Addr.add_mid]
   exact h j v hv)
 cases hq : P.info? ty with
 | none => simp [hq] at hi
 | some i =>
  have hs : i.size = cs.length := by simpa [hq] using hi
  have hagg : (isAgg ty).run P w = .ok true w := by
   unfold isAgg
   rw [Sem.run_bind, run_underlying hu w]
   cases d <;> simp_all
  simp [loadVar, Sem.run_bind, hagg, sizeOf, typeInfo, hq, hs, hl]
theorem wpList_load_range {P : Program} {Q : Exit → Act → World → Prop} {a : Act} {w : World} {ops : Array Oper} {rest : List Oper} {o : Oper} (hgd : Region.wanted o (yielded ops a.tmps) = true) (ty : TypeId) (x : Operand) (ho : o.op = .load ty x)
 (b k : Nat) (hx : a.eval x = .pointer (some ⟨b, k, none⟩)) (cs : List Value) (d : TypeDesc) (h : w.rangeAt b k cs)
 (hu : P.underlying ty = some d) (hd : (match d with | .struct _ | .array _ _ => true | _ => false) = true) (hi : (P.info? ty).map (·.size) = some cs.length)
 (hK : wpList P ops Q rest (a.put o.dst (.agg cs.toArray)) w) : wpList P ops Q (o :: rest) a w :=
 wpList_step fun K hk => by
  rw [if_pos hgd]
  unfold Oper.wp execOp
  simp only [ho, hx, Instr.loadAt, Instr.sureAddr, Sem.run_bind, Sem.run_pure, Result.andThen_ok, run_loadVar_range w b k ty cs d h hu hd hi]
  exact hk _ _ hK
/-- a load of a whole struct behind '&&' -/
theorem wpList_load_rowW {P : Program} {Q : Exit → Act → World → Prop} {a : Act} {w : World} {ops : Array Oper} {rest : List Oper} {o : Oper} (hgd : Region.wanted o (yielded ops a.tmps) = true) (ty : TypeId) (x : Operand) (ho : o.op = .load ty x)
 (g : Nat) (hx : a.eval x = .pointer (some ⟨g, 0, none⟩)) (t : TypeId) (cs : Array Value) (fr : Nat × Nat) (d : TypeDesc) (hg : w.heap[g]? = some (.cells cs t fr))
 (hu : P.underlying ty = some d) (hd : (match d with | .struct _ | .array _ _ => true | _ => false) = true) (hi : (P.info? ty).map (·.size) = some cs.size)
 (h : wpList P ops Q rest (a.put o.dst (.agg cs)) w) : wpList P ops Q (o :: rest) a w :=
 wpList_step fun _ hK => by
  rw [if_pos hgd]
  exact wp_load_row ty x ho g hx t cs fr d hg hu hd hi (hK _ _ h)
theorem exec_load_row {P : Program} {o : Oper} {ev : Operand → Value} {w : World} (ty : TypeId) (x : Operand) (ho : o.op = .load ty x)
 (g : Nat) (hx : ev x = .pointer (some ⟨g, 0, none⟩)) (t : TypeId) (cs : Array Value) (fr : Nat × Nat) (d : TypeDesc) (hg : w.heap[g]? = some (.cells cs t fr))
 (hu : P.underlying ty = some d) (hd : (match d with | .struct _ | .array _ _ => true | _ => false) = true) (hi : (P.info? ty).map (·.size) = some cs.size) :
 (execOp ev o).run P w = .ok (.value (.agg cs)) w := by
 unfold execOp
 simp only [ho, hx, Instr.loadAt, Instr.sureAddr, Sem.run_bind, Sem.run_pure, Result.andThen_ok, run_loadVar_row w g t ty cs fr d hg hu hd hi]
theorem range2 {w : World} {b k : Nat} {x y : Value} (h1 : w.cell? ⟨b, k, none⟩ = some x) (h2 : w.cell? ⟨b, k + 1, none⟩ = some y) : w.rangeAt b k [x, y] := fun j v hv => by
 rcases j with _ | _ | j
 · cases hv; exact h1
 · cases hv; exact h2
 · exact absurd hv (by simp)
theorem exec_load_range {P : Program} {o : Oper} {ev : Operand → Value} {w : World} (ty : TypeId) (x : Operand) (ho : o.op = .load ty x)
 (b k : Nat) (hx : ev x = .pointer (some ⟨b, k, none⟩)) (cs : List Value) (d : TypeDesc) (h : w.rangeAt b k cs)
 (hu : P.underlying ty = some d) (hd : (match d with | .struct _ | .array _ _ => true | _ => false) = true) (hi : (P.info? ty).map (·.size) = some cs.length) :
 (execOp ev o).run P w = .ok (.value (.agg cs.toArray)) w := by
 unfold execOp
 simp only [ho, hx, Instr.loadAt, Instr.sureAddr, Sem.run_bind, Sem.run_pure, Result.andThen_ok, run_loadVar_range w b k ty cs d h hu hd hi]
theorem lRW {P : Program} {Q : Exit → Act → World → Prop} {a : Act} {w : World} {ops : Array Oper} {rest : List Oper} {o : Oper} {ty t : TypeId} {x : Operand} {g n : Nat} {cs : Array Value} {fr : Nat × Nat} {d : TypeDesc} (hg : w.heap[g]? = some (.cells cs t fr)) (hu : P.underlying ty = some d) (hi : (P.info? ty).map (·.size) = some n)
 (h : wpList P ops Q rest (a.put o.dst (.agg cs)) w) (ho : o.op = .load ty x := by exact rfl) (hx : a.eval x = .pointer (some ⟨g, 0, none⟩) := by exact rfl) (hd : (match d with | .struct _ | .array _ _ => true | _ => false) = true := by exact rfl) (hn : cs.size = n := by exact rfl) (hgd : Region.wanted o (yielded ops a.tmps) = true := by first | (go_simp; done) | rfl) : wpList P ops Q (o :: rest) a w :=
 wpList_load_rowW hgd ty x ho g hx t cs fr d hg hu hd (by rw [hi, hn]) h
theorem lRG {P : Program} {Q : Exit → Act → World → Prop} {a : Act} {w : World} {ops : Array Oper} {rest : List Oper} {o : Oper} {ty : TypeId} {x : Operand} {b k n : Nat} {cs : List Value} {d : TypeDesc} (hr : w.rangeAt b k cs) (hu : P.underlying ty = some d) (hi : (P.info? ty).map (·.size) = some n)
 (h : wpList P ops Q rest (a.put o.dst (.agg cs.toArray)) w) (ho : o.op = .load ty x := by exact rfl) (hx : a.eval x = .pointer (some ⟨b, k, none⟩) := by exact rfl) (hd : (match d with | .struct _ | .array _ _ => true | _ => false) = true := by exact rfl) (hn : cs.length = n := by exact rfl) (hgd : Region.wanted o (yielded ops a.tmps) = true := by first | (go_simp; done) | rfl) : wpList P ops Q (o :: rest) a w :=
 wpList_load_range hgd ty x ho b k hx cs d hr hu hd (by rw [hi, hn]) h
theorem sRW {P : Program} {Q : Exit → Act → World → Prop} {a : Act} {w : World} {ops : Array Oper} {rest : List Oper} {o : Oper} {ty t : TypeId} {x y : Operand} {g n : Nat} {old : Array Value} (cells : Array Value) (hg : w.heap[g]? = some (.cells old t (0, 0))) (hi : (P.info? ty).map (·.size) = some n)
 (h : wpList P ops Q rest (a.put o.dst undef) (w.setRow g cells)) (ho : o.op = .store ty x y := by exact rfl) (hx : a.eval x = .pointer (some ⟨g, 0, none⟩) := by exact rfl) (hy : a.eval y = .agg cells := by exact rfl) (hold : old.size = cells.size := by exact rfl) (hn : cells.size = n := by exact rfl) (h1 : cells.all (·.oneCell') = true := by simp [Value.oneCell']) (hgd : o.guard = none := by first | rfl | (go_simp; done)) : wpList P ops Q (o :: rest) a w :=
 wpList_store_row hgd ty x y ho g cells hx hy t old hg (by rw [hi, hn]) hold h1 h
end Go.Proofs.YtjbjpkhibcnenaaGreatDoor
