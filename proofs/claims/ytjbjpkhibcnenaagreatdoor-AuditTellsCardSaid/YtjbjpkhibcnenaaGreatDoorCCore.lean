/- Texts merged: CInts CCore -/
import Derived.Outline
import Derived.Test.YtjbjpkhibcnenaaGreatDoorNDiv
import Derived.Test.YtjbjpkhibcnenaaGreatDoorSLaw
import Derived.Test.YtjbjpkhibcnenaaGreatDoorSChal
/- claim.ints, promiseCore, Core. -/
namespace Go.Proofs.YtjbjpkhibcnenaaGreatDoor
set_option maxRecDepth 100000
set_option maxHeartbeats 1000000
open Go.RowKit
theorem catL (a b : List UInt8) : (⟨a.toArray⟩ : ByteArray) ++ ⟨b.toArray⟩ = ⟨(a ++ b).toArray⟩ := by
 apply ByteArray.ext
 apply Array.ext'
 simp
theorem ints_len (xs : List Int) (h : ∀ x ∈ xs, I64 x) : (xs.flatMap intL).length ≤ 9 * xs.length := by
 induction xs with
 | nil => simp
 | cons x r ih =>
  have h1 := (intL_len (h x (by simp))).2
  have h2 := ih (fun y hy => h y (by simp [hy]))
  simp only [List.flatMap_cons, List.length_append, List.length_cons]
  omega
theorem ints_any (bk : Nat) (xs : List Int) (w : World) (hx : ∀ x ∈ xs, I64 x) (hcells : ∀ (j : Nat) x, xs[j]? = some x → w.cell? ⟨bk, 0 + j, none⟩ = some (.int .i64 x)) (hbk : bk < w.heap.size) (hN : xs.length ≤ 100) :
 Calls Tryz.prog 118 #[.slice (some ⟨bk, 0, none⟩) xs.length xs.length] w fun e w' => e = .returned (.string ⟨(xs.flatMap intL).toArray⟩) ∧ Below w.heap.size w w' := by
 have HX := Lib.hid hx
 have HC := Lib.hid hcells
 have HK := Lib.hid hbk
 clear hx hcells hbk
 go_enter Tryz.func118, Tryz.ntmps118
 go_wp2_with fail
 go_loopw [3, 8] (fun sv iv wr => ∃ k : Nat, k ≤ xs.length ∧ iv = .int .i64 k ∧ sv = .string ⟨((xs.take k).flatMap intL).toArray⟩ ∧ Below w.heap.size w wr) (fun _ iv _ => xs.length - (intOf iv).toNat)
 case atStart => exact ⟨0, by omega, rfl, rfl, Below.refl _ _⟩
 case round =>
  obtain ⟨k, hk, rfl, rfl, hb⟩ := hrel
  have HB := Lib.hid hb
  clear hb
  by_cases hlt : k < xs.length
  ·
   have H1 : Hid (xs[k]? = some xs[k]) := Lib.hid (List.getElem?_eq_getElem hlt)
   have hc : wr.cell? ⟨bk, k, none⟩ = some (.int .i64 xs[k]) := by
    have h := (HB.out.cell (p := ⟨bk, 0 + k, none⟩) HK.out).trans (HC.out k _ H1.out)
    rw [Nat.zero_add] at h
    exact h
   have HI : Hid (I64 xs[k]) := Lib.hid (HX.out _ (List.getElem_mem hlt))
   obtain ⟨A, hA⟩ : ∃ A : ByteArray, A = ⟨((xs.take k).flatMap intL).toArray⟩ := ⟨_, rfl⟩
   obtain ⟨B, hB⟩ : ∃ B : ByteArray, B = ⟨(intL xs[k]).toArray⟩ := ⟨_, rfl⟩
   have hAs : A.size ≤ 900 := by
    have h := ints_len (xs.take k) (fun x hx => HX.out x (List.mem_of_mem_take hx))
    have h2 : A.data.toList.length ≤ 900 := by rw [hA]; show ((xs.take k).flatMap intL).length ≤ 900; rw [List.length_take] at h; omega
    exact h2
   have hBs : B.size ≤ 9 := by
    have h := (intL_len HI.out).2
    have h2 : B.data.toList.length ≤ 9 := by rw [hB]; exact h
    exact h2
   have HAB : Hid (A ++ B = ⟨((xs.take (k + 1)).flatMap intL).toArray⟩) := Lib.hid (by
    have e : (xs.take (k + 1)).flatMap intL = (xs.take k).flatMap intL ++ intL xs[k] := by
     rw [List.take_add_one, H1.out, List.flatMap_append, Option.toList_some, List.flatMap_singleton]
    rw [e, hA, hB, catL])
   have HBe := Lib.hid hB
   rw [← hA]
   have hn : ¬ 9223372036854775807 < A.size + B.size := by omega
   clear hA hB
   generalize xs[k] = x at *
   go_wp2_with fail
   refine (int_any x _ HI.out).mono ?_
   rintro e w2 ⟨rfl, hb⟩
   rw [← HBe.out]
   have HB2 := Lib.hid (HB.out.trans (hb.mono HB.out.size))
   clear hb
   go_wp2_with fail
   go_roundw
   case rel => exact ⟨k + 1, by omega, by go_num, by rw [HAB.out], HB2.out⟩
   case measure => simp [intOf]; omega
  ·
   obtain rfl : k = xs.length := by omega
   have HE : Hid ((⟨((xs.take xs.length).flatMap intL).toArray⟩ : ByteArray) = ⟨(xs.flatMap intL).toArray⟩) := Lib.hid (by rw [List.take_length])
   go_wp2_with fail
   go_ret
   exact ⟨by rw [← HE.out]; rfl, HB.out⟩
theorem ints_row (bk : Nat) (xs : List Int) (w : World) (hx : ∀ x ∈ xs, I64 x) {t : TypeId} (hr : w.heap[bk]? = some (.cells (xs.map (Value.int .i64)).toArray t)) (hN : xs.length ≤ 100) :
 Calls Tryz.prog 118 #[.slice (some ⟨bk, 0, none⟩) xs.length xs.length] w fun e w' => e = .returned (.string ⟨(xs.flatMap intL).toArray⟩) ∧ Below w.heap.size w w' :=
 ints_any bk xs w hx (fun j x hj => by
  rw [Nat.zero_add]
  have h := cell_of_row _ _ j _ _ _ hr
  rw [← Array.getElem?_toList] at h
  have h2 : (xs.map (Value.int .i64))[j]? = some (.int .i64 x) := by rw [List.getElem?_map, hj]; rfl
  exact h.trans h2) (blk_lt hr) hN
end Go.Proofs.YtjbjpkhibcnenaaGreatDoor
/- claim.Core, promiseCore, Bytes, PromiseBytes, Digest, Verify, PromiseVerify. -/
namespace Go.Proofs.YtjbjpkhibcnenaaGreatDoor
set_option maxRecDepth 100000
set_option maxHeartbeats 2000000
open Go.RowKit
theorem cc_step {w cur w' : World} {k0 : Nat} {A0 : Obj} {v0 v1 v2 v3 v4 v5 : Value} (h : cur.heap[k0]? = some A0 ∧ cur.cell? ⟨k0, 0, none⟩ = some v0 ∧ cur.cell? ⟨k0, 1, none⟩ = some v1 ∧ cur.cell? ⟨k0, 2, none⟩ = some v2 ∧ cur.cell? ⟨k0, 3, none⟩ = some v3 ∧ cur.cell? ⟨k0, 4, none⟩ = some v4 ∧ cur.cell? ⟨k0, 5, none⟩ = some v5 ∧ Below w.heap.size w cur) (hb : Below cur.heap.size cur w') : w'.heap[k0]? = some A0 ∧ w'.cell? ⟨k0, 0, none⟩ = some v0 ∧ w'.cell? ⟨k0, 1, none⟩ = some v1 ∧ w'.cell? ⟨k0, 2, none⟩ = some v2 ∧ w'.cell? ⟨k0, 3, none⟩ = some v3 ∧ w'.cell? ⟨k0, 4, none⟩ = some v4 ∧ w'.cell? ⟨k0, 5, none⟩ = some v5 ∧ Below w.heap.size w w' := by
 obtain ⟨a0, c0, c1, c2, c3, c4, c5, d⟩ := h
 exact ⟨blk_below a0 hb (blk_lt a0), (hb.cell (p := ⟨_, 0, none⟩) (blk_lt a0)).trans c0, (hb.cell (p := ⟨_, 1, none⟩) (blk_lt a0)).trans c1, (hb.cell (p := ⟨_, 2, none⟩) (blk_lt a0)).trans c2, (hb.cell (p := ⟨_, 3, none⟩) (blk_lt a0)).trans c3, (hb.cell (p := ⟨_, 4, none⟩) (blk_lt a0)).trans c4, (hb.cell (p := ⟨_, 5, none⟩) (blk_lt a0)).trans c5, d.trans (hb.mono d.size)⟩
theorem cc_stepN {w cur : World} {k0 : Nat} {A0 : Obj} {v0 v1 v2 v3 v4 v5 : Value} (h : cur.heap[k0]? = some A0 ∧ cur.cell? ⟨k0, 0, none⟩ = some v0 ∧ cur.cell? ⟨k0, 1, none⟩ = some v1 ∧ cur.cell? ⟨k0, 2, none⟩ = some v2 ∧ cur.cell? ⟨k0, 3, none⟩ = some v3 ∧ cur.cell? ⟨k0, 4, none⟩ = some v4 ∧ cur.cell? ⟨k0, 5, none⟩ = some v5 ∧ Below w.heap.size w cur) (n : Nat) : (cur.drewN n).heap[k0]? = some A0 ∧ (cur.drewN n).cell? ⟨k0, 0, none⟩ = some v0 ∧ (cur.drewN n).cell? ⟨k0, 1, none⟩ = some v1 ∧ (cur.drewN n).cell? ⟨k0, 2, none⟩ = some v2 ∧ (cur.drewN n).cell? ⟨k0, 3, none⟩ = some v3 ∧ (cur.drewN n).cell? ⟨k0, 4, none⟩ = some v4 ∧ (cur.drewN n).cell? ⟨k0, 5, none⟩ = some v5 ∧ Below w.heap.size w (cur.drewN n) := by
 obtain ⟨a0, c0, c1, c2, c3, c4, c5, d⟩ := h
 exact ⟨a0, c0, c1, c2, c3, c4, c5, below_drewN d⟩
theorem cc_stepA {w cur : World} {k0 : Nat} {A0 : Obj} {v0 v1 v2 v3 v4 v5 : Value} {o : Obj} (h : cur.heap[k0]? = some A0 ∧ cur.cell? ⟨k0, 0, none⟩ = some v0 ∧ cur.cell? ⟨k0, 1, none⟩ = some v1 ∧ cur.cell? ⟨k0, 2, none⟩ = some v2 ∧ cur.cell? ⟨k0, 3, none⟩ = some v3 ∧ cur.cell? ⟨k0, 4, none⟩ = some v4 ∧ cur.cell? ⟨k0, 5, none⟩ = some v5 ∧ Below w.heap.size w cur) : (cur.alloc o).heap[k0]? = some A0 ∧ (cur.alloc o).cell? ⟨k0, 0, none⟩ = some v0 ∧ (cur.alloc o).cell? ⟨k0, 1, none⟩ = some v1 ∧ (cur.alloc o).cell? ⟨k0, 2, none⟩ = some v2 ∧ (cur.alloc o).cell? ⟨k0, 3, none⟩ = some v3 ∧ (cur.alloc o).cell? ⟨k0, 4, none⟩ = some v4 ∧ (cur.alloc o).cell? ⟨k0, 5, none⟩ = some v5 ∧ Below w.heap.size w (cur.alloc o) := cc_step h ((Below.refl _ _).alloc (Nat.le_refl _) o)
theorem coreC_any (c : CV) (w : World) (hO : COk c) (hp : c.prev.size ≤ 2000000) (hml : MLen w) :
 Calls Tryz.prog 86 #[.agg #[.int .i64 c.office, .int .i64 c.hour, .int .i64 c.inn, .int .i64 c.out, .int .i64 c.store, .string c.prev, .int .i64 c.e, .int .i64 c.s]] w fun e w' => e = .returned (.string ⟨(coreC c).toArray⟩) ∧ Below w.heap.size w w' := by
 have HM := Lib.hid hml
 obtain ⟨A, hA⟩ : ∃ A : ByteArray, A = ⟨([c.office, c.hour, c.inn, c.out, c.store].flatMap intL).toArray⟩ := ⟨_, rfl⟩
 obtain ⟨B, hB⟩ : ∃ B : ByteArray, B = ⟨(textL c.prev.data.toList).toArray⟩ := ⟨_, rfl⟩
 have hx : ∀ x ∈ [c.office, c.hour, c.inn, c.out, c.store], I64 x := by
  obtain ⟨h1, h2, h3, h4, h5, -⟩ := hO
  intro x hx
  simp only [List.mem_cons, List.not_mem_nil, or_false] at hx
  rcases hx with rfl | rfl | rfl | rfl | rfl <;> assumption
 have HI : Hid (∀ w0 bk, w0.heap[bk]? = some (.cells #[.int .i64 c.office, .int .i64 c.hour, .int .i64 c.inn, .int .i64 c.out, .int .i64 c.store] 3) → Calls Tryz.prog 118 #[.slice (some ⟨bk, 0, none⟩) 5 5] w0 fun e w' => e = .returned (.string A) ∧ Below w0.heap.size w0 w') := Lib.hid (fun w0 bk h => by
  rw [hA]
  exact ints_row bk [c.office, c.hour, c.inn, c.out, c.store] w0 hx h (show _ ≤ 100 by simp))
 have HT : Hid (∀ w0, MLen w0 → Calls Tryz.prog 119 #[.string c.prev] w0 fun e w' => e = .returned (.string B) ∧ Below w0.heap.size w0 w') := Lib.hid (fun w0 h => by
  rw [hB]
  exact text_any c.prev w0 (by omega) h)
 have HAB : Hid (A ++ B = ⟨(coreC c).toArray⟩) := Lib.hid (by
  rw [hA, hB, catL]
  simp [coreC, textC])
 have hAs : A.size ≤ 45 := by
  have h := ints_len _ hx
  have h2 : A.data.toList.length ≤ 45 := by rw [hA]; exact h
  exact h2
 have hBs : B.size ≤ 4000002 := by
  have h := textL_len c.prev.data.toList
  have h3 : c.prev.data.toList.length = c.prev.size := by simp
  have h2 : B.data.toList.length ≤ 4000002 := by rw [hB]; show (textL c.prev.data.toList).length ≤ 4000002; omega
  exact h2
 have hn : ¬ 9223372036854775807 < A.size + B.size := by omega
 clear hml hA hB hx hO hp
 go_enter Tryz.func86, Tryz.ntmps86
 go_upto_region 1 with fail
 have HB1 := Lib.hid ((Below.refl w.heap.size w).alloc (Nat.le_refl _) (.cells #[.int .i64 c.office, .int .i64 c.hour, .int .i64 c.inn, .int .i64 c.out, .int .i64 c.store, .string c.prev, .int .i64 c.e, .int .i64 c.s] 63))
 have Kh1 := Lib.hid (heap_alloc_new w (.cells #[.int .i64 c.office, .int .i64 c.hour, .int .i64 c.inn, .int .i64 c.out, .int .i64 c.store, .string c.prev, .int .i64 c.e, .int .i64 c.s] 63))
 generalize w.alloc (.cells #[.int .i64 c.office, .int .i64 c.hour, .int .i64 c.inn, .int .i64 c.out, .int .i64 c.store, .string c.prev, .int .i64 c.e, .int .i64 c.s] 63) = w1 at *
 have HS0 : Hid (w1.drew.heap[w.heap.size]? = some (.cells #[.int .i64 c.office, .int .i64 c.hour, .int .i64 c.inn, .int .i64 c.out, .int .i64 c.store, .string c.prev, .int .i64 c.e, .int .i64 c.s] 63) ∧ w1.drew.cell? ⟨w.heap.size, 0, none⟩ = some (.int .i64 c.office) ∧ w1.drew.cell? ⟨w.heap.size, 1, none⟩ = some (.int .i64 c.hour) ∧ w1.drew.cell? ⟨w.heap.size, 2, none⟩ = some (.int .i64 c.inn) ∧ w1.drew.cell? ⟨w.heap.size, 3, none⟩ = some (.int .i64 c.out) ∧ w1.drew.cell? ⟨w.heap.size, 4, none⟩ = some (.int .i64 c.store) ∧ w1.drew.cell? ⟨w.heap.size, 5, none⟩ = some (.string c.prev) ∧ Below w.heap.size w w1.drew) := Lib.hid ⟨Kh1.out, (cell_of_row _ _ _ _ _ _ Kh1.out).trans rfl, (cell_of_row _ _ _ _ _ _ Kh1.out).trans rfl, (cell_of_row _ _ _ _ _ _ Kh1.out).trans rfl, (cell_of_row _ _ _ _ _ _ Kh1.out).trans rfl, (cell_of_row _ _ _ _ _ _ Kh1.out).trans rfl, (cell_of_row _ _ _ _ _ _ Kh1.out).trans rfl, HB1.out.drew⟩
 clear Kh1 HB1
 refine wp_region_noPanic ?_
 refine wp_region_held_drew (S := fun w' => w'.heap[w.heap.size]? = some (.cells #[.int .i64 c.office, .int .i64 c.hour, .int .i64 c.inn, .int .i64 c.out, .int .i64 c.store, .string c.prev, .int .i64 c.e, .int .i64 c.s] 63) ∧ w'.cell? ⟨w.heap.size, 0, none⟩ = some (.int .i64 c.office) ∧ w'.cell? ⟨w.heap.size, 1, none⟩ = some (.int .i64 c.hour) ∧ w'.cell? ⟨w.heap.size, 2, none⟩ = some (.int .i64 c.inn) ∧ w'.cell? ⟨w.heap.size, 3, none⟩ = some (.int .i64 c.out) ∧ w'.cell? ⟨w.heap.size, 4, none⟩ = some (.int .i64 c.store) ∧ w'.cell? ⟨w.heap.size, 5, none⟩ = some (.string c.prev) ∧ Below w.heap.size w w') (by kernel_rfl) HS0.out (fun hHeld => ?_)
 refine tm 0 ?_
 refine tm 1 ?_
 refine tm 2 ?_
 refine tm 3 ?_
 refine tm 4 ?_
 refine tm 5 ?_
 refine tm 6 ?_
 refine tm 7 ?_
 refine tm 8 ?_
 refine tm 9 ?_
 refine tm 12 ?_
 refine tm 13 ?_
 refine wpAnyH_ready (rs := [10]) (by kernel_rfl) (by simp) ?_
 refine AllReadyH.cons (by simp only [List.getElem?_toArray, List.getElem?_cons_succ, List.getElem?_cons_zero]; exact rfl) (fun K hK => ?_) AllReadyH.nil
 go_simp
 refine hK.out _ _ (cc_stepA hHeld) (fun hHeld => ?_)
 clear hK K
 try simp only [Act.put, List.setIfInBounds_toArray, List.set_cons_zero, List.set_cons_succ]
 refine wpAnyH_ready (rs := [11]) (by kernel_rfl) (by simp) ?_
 refine AllReadyH.cons (by simp only [List.getElem?_toArray, List.getElem?_cons_succ, List.getElem?_cons_zero]; exact rfl) (fun K hK => ?_) AllReadyH.nil
 go_simp
 refine (HI.out _ _ (by exact heap_alloc_new w1 _)).mono ?_
 rintro e w' ⟨rfl, hb⟩
 refine hK.out _ _ (cc_step hHeld hb) (fun hHeld => ?_)
 clear hK K hb
 try simp only [Act.put, List.setIfInBounds_toArray, List.set_cons_zero, List.set_cons_succ]
 refine wpAnyH_ready (rs := [14]) (by kernel_rfl) (by simp) ?_
 refine AllReadyH.cons (by simp only [List.getElem?_toArray, List.getElem?_cons_succ, List.getElem?_cons_zero]; exact rfl) (fun K hK => ?_) AllReadyH.nil
 go_simp
 refine (HT.out _ (HM.out.up hHeld.2.2.2.2.2.2.2)).mono ?_
 rintro e w' ⟨rfl, hb⟩
 refine hK.out _ _ (cc_step hHeld hb) (fun hHeld => ?_)
 clear hK K hb
 try simp only [Act.put, List.setIfInBounds_toArray, List.set_cons_zero, List.set_cons_succ]
 refine tm 15 ?_
 refine tm 16 ?_
 refine wpAnyH_done (by kernel_rfl) ?_ _
 refine NoPanic.normal ?_
 have HBf := Lib.hid hHeld.2.2.2.2.2.2.2
 go_wp2_with fail
 go_ret
 exact ⟨by rw [← HAB.out]; rfl, HBf.out⟩
theorem coreP_any (c : PV) (w : World) (hO : POk c) :
 Calls Tryz.prog 120 #[.agg #[.int .i64 c.office, .int .i64 c.since, .int .i64 c.till, .int .i64 c.litres, .int .i64 c.e, .int .i64 c.s]] w fun e w' => e = .returned (.string ⟨(coreP c).toArray⟩) ∧ Below w.heap.size w w' := by
 obtain ⟨A, hA⟩ : ∃ A : ByteArray, A = ⟨(coreP c).toArray⟩ := ⟨_, rfl⟩
 have hx : ∀ x ∈ [c.office, c.since, c.till, c.litres], I64 x := by
  obtain ⟨h1, h2, h3, h4, -⟩ := hO
  intro x hx
  simp only [List.mem_cons, List.not_mem_nil, or_false] at hx
  rcases hx with rfl | rfl | rfl | rfl <;> assumption
 have HI : Hid (∀ w0 bk, w0.heap[bk]? = some (.cells #[.int .i64 c.office, .int .i64 c.since, .int .i64 c.till, .int .i64 c.litres] 3) → Calls Tryz.prog 118 #[.slice (some ⟨bk, 0, none⟩) 4 4] w0 fun e w' => e = .returned (.string A) ∧ Below w0.heap.size w0 w') := Lib.hid (fun w0 bk h => by
  rw [hA]
  have h2 := ints_row bk [c.office, c.since, c.till, c.litres] w0 hx h (show _ ≤ 100 by simp)
  have e : [c.office, c.since, c.till, c.litres].flatMap intL = coreP c := by simp [coreP]
  rw [e] at h2
  exact h2)
 rw [← hA]
 clear hA hx hO
 go_enter Tryz.func120, Tryz.ntmps120
 go_upto_region 1 with fail
 have HB1 := Lib.hid ((Below.refl w.heap.size w).alloc (Nat.le_refl _) (.cells #[.int .i64 c.office, .int .i64 c.since, .int .i64 c.till, .int .i64 c.litres, .int .i64 c.e, .int .i64 c.s] 38))
 have Kh1 := Lib.hid (heap_alloc_new w (.cells #[.int .i64 c.office, .int .i64 c.since, .int .i64 c.till, .int .i64 c.litres, .int .i64 c.e, .int .i64 c.s] 38))
 generalize w.alloc (.cells #[.int .i64 c.office, .int .i64 c.since, .int .i64 c.till, .int .i64 c.litres, .int .i64 c.e, .int .i64 c.s] 38) = w1 at *
 have cK0 : w1.cell? ⟨w.heap.size, 0, none⟩ = some (.int .i64 c.office) := (cell_of_row _ _ _ _ _ _ Kh1.out).trans rfl
 have cK1 : w1.cell? ⟨w.heap.size, 1, none⟩ = some (.int .i64 c.since) := (cell_of_row _ _ _ _ _ _ Kh1.out).trans rfl
 have cK2 : w1.cell? ⟨w.heap.size, 2, none⟩ = some (.int .i64 c.till) := (cell_of_row _ _ _ _ _ _ Kh1.out).trans rfl
 have cK3 : w1.cell? ⟨w.heap.size, 3, none⟩ = some (.int .i64 c.litres) := (cell_of_row _ _ _ _ _ _ Kh1.out).trans rfl
 have cK4 : w1.cell? ⟨w.heap.size, 4, none⟩ = some (.int .i64 c.e) := (cell_of_row _ _ _ _ _ _ Kh1.out).trans rfl
 have cK5 : w1.cell? ⟨w.heap.size, 5, none⟩ = some (.int .i64 c.s) := (cell_of_row _ _ _ _ _ _ Kh1.out).trans rfl
 go_wp2_with fail
 refine (HI.out _ _ (heap_alloc_new _ _)).mono ?_
 rintro e w3 ⟨rfl, hb⟩
 have HBf := Lib.hid ((HB1.out.alloc HB1.out.size (.cells #[.int .i64 c.office, .int .i64 c.since, .int .i64 c.till, .int .i64 c.litres] 3)).trans (hb.mono (HB1.out.alloc HB1.out.size (.cells #[.int .i64 c.office, .int .i64 c.since, .int .i64 c.till, .int .i64 c.litres] 3)).size))
 clear hb
 go_wp2_with fail
 go_ret
 exact ⟨rfl, HBf.out⟩
theorem bc_step {w cur w' : World} {k0 : Nat} {A0 : Obj} {v0 v1 v2 v3 v4 v5 v6 v7 : Value} (h : cur.heap[k0]? = some A0 ∧ cur.cell? ⟨k0, 0, none⟩ = some v0 ∧ cur.cell? ⟨k0, 1, none⟩ = some v1 ∧ cur.cell? ⟨k0, 2, none⟩ = some v2 ∧ cur.cell? ⟨k0, 3, none⟩ = some v3 ∧ cur.cell? ⟨k0, 4, none⟩ = some v4 ∧ cur.cell? ⟨k0, 5, none⟩ = some v5 ∧ cur.cell? ⟨k0, 6, none⟩ = some v6 ∧ cur.cell? ⟨k0, 7, none⟩ = some v7 ∧ Below w.heap.size w cur) (hb : Below cur.heap.size cur w') : w'.heap[k0]? = some A0 ∧ w'.cell? ⟨k0, 0, none⟩ = some v0 ∧ w'.cell? ⟨k0, 1, none⟩ = some v1 ∧ w'.cell? ⟨k0, 2, none⟩ = some v2 ∧ w'.cell? ⟨k0, 3, none⟩ = some v3 ∧ w'.cell? ⟨k0, 4, none⟩ = some v4 ∧ w'.cell? ⟨k0, 5, none⟩ = some v5 ∧ w'.cell? ⟨k0, 6, none⟩ = some v6 ∧ w'.cell? ⟨k0, 7, none⟩ = some v7 ∧ Below w.heap.size w w' := by
 obtain ⟨a0, c0, c1, c2, c3, c4, c5, c6, c7, d⟩ := h
 exact ⟨blk_below a0 hb (blk_lt a0), (hb.cell (p := ⟨_, 0, none⟩) (blk_lt a0)).trans c0, (hb.cell (p := ⟨_, 1, none⟩) (blk_lt a0)).trans c1, (hb.cell (p := ⟨_, 2, none⟩) (blk_lt a0)).trans c2, (hb.cell (p := ⟨_, 3, none⟩) (blk_lt a0)).trans c3, (hb.cell (p := ⟨_, 4, none⟩) (blk_lt a0)).trans c4, (hb.cell (p := ⟨_, 5, none⟩) (blk_lt a0)).trans c5, (hb.cell (p := ⟨_, 6, none⟩) (blk_lt a0)).trans c6, (hb.cell (p := ⟨_, 7, none⟩) (blk_lt a0)).trans c7, d.trans (hb.mono d.size)⟩
theorem bc_stepN {w cur : World} {k0 : Nat} {A0 : Obj} {v0 v1 v2 v3 v4 v5 v6 v7 : Value} (h : cur.heap[k0]? = some A0 ∧ cur.cell? ⟨k0, 0, none⟩ = some v0 ∧ cur.cell? ⟨k0, 1, none⟩ = some v1 ∧ cur.cell? ⟨k0, 2, none⟩ = some v2 ∧ cur.cell? ⟨k0, 3, none⟩ = some v3 ∧ cur.cell? ⟨k0, 4, none⟩ = some v4 ∧ cur.cell? ⟨k0, 5, none⟩ = some v5 ∧ cur.cell? ⟨k0, 6, none⟩ = some v6 ∧ cur.cell? ⟨k0, 7, none⟩ = some v7 ∧ Below w.heap.size w cur) (n : Nat) : (cur.drewN n).heap[k0]? = some A0 ∧ (cur.drewN n).cell? ⟨k0, 0, none⟩ = some v0 ∧ (cur.drewN n).cell? ⟨k0, 1, none⟩ = some v1 ∧ (cur.drewN n).cell? ⟨k0, 2, none⟩ = some v2 ∧ (cur.drewN n).cell? ⟨k0, 3, none⟩ = some v3 ∧ (cur.drewN n).cell? ⟨k0, 4, none⟩ = some v4 ∧ (cur.drewN n).cell? ⟨k0, 5, none⟩ = some v5 ∧ (cur.drewN n).cell? ⟨k0, 6, none⟩ = some v6 ∧ (cur.drewN n).cell? ⟨k0, 7, none⟩ = some v7 ∧ Below w.heap.size w (cur.drewN n) := by
 obtain ⟨a0, c0, c1, c2, c3, c4, c5, c6, c7, d⟩ := h
 exact ⟨a0, c0, c1, c2, c3, c4, c5, c6, c7, below_drewN d⟩
theorem bc_stepA {w cur : World} {k0 : Nat} {A0 : Obj} {v0 v1 v2 v3 v4 v5 v6 v7 : Value} {o : Obj} (h : cur.heap[k0]? = some A0 ∧ cur.cell? ⟨k0, 0, none⟩ = some v0 ∧ cur.cell? ⟨k0, 1, none⟩ = some v1 ∧ cur.cell? ⟨k0, 2, none⟩ = some v2 ∧ cur.cell? ⟨k0, 3, none⟩ = some v3 ∧ cur.cell? ⟨k0, 4, none⟩ = some v4 ∧ cur.cell? ⟨k0, 5, none⟩ = some v5 ∧ cur.cell? ⟨k0, 6, none⟩ = some v6 ∧ cur.cell? ⟨k0, 7, none⟩ = some v7 ∧ Below w.heap.size w cur) : (cur.alloc o).heap[k0]? = some A0 ∧ (cur.alloc o).cell? ⟨k0, 0, none⟩ = some v0 ∧ (cur.alloc o).cell? ⟨k0, 1, none⟩ = some v1 ∧ (cur.alloc o).cell? ⟨k0, 2, none⟩ = some v2 ∧ (cur.alloc o).cell? ⟨k0, 3, none⟩ = some v3 ∧ (cur.alloc o).cell? ⟨k0, 4, none⟩ = some v4 ∧ (cur.alloc o).cell? ⟨k0, 5, none⟩ = some v5 ∧ (cur.alloc o).cell? ⟨k0, 6, none⟩ = some v6 ∧ (cur.alloc o).cell? ⟨k0, 7, none⟩ = some v7 ∧ Below w.heap.size w (cur.alloc o) := bc_step h ((Below.refl _ _).alloc (Nat.le_refl _) o)
theorem bc_stepU {w cur : World} {k0 : Nat} {A0 : Obj} {v0 v1 v2 v3 v4 v5 v6 v7 : Value} {n : Nat} (h : (cur.drewN n).heap[k0]? = some A0 ∧ (cur.drewN n).cell? ⟨k0, 0, none⟩ = some v0 ∧ (cur.drewN n).cell? ⟨k0, 1, none⟩ = some v1 ∧ (cur.drewN n).cell? ⟨k0, 2, none⟩ = some v2 ∧ (cur.drewN n).cell? ⟨k0, 3, none⟩ = some v3 ∧ (cur.drewN n).cell? ⟨k0, 4, none⟩ = some v4 ∧ (cur.drewN n).cell? ⟨k0, 5, none⟩ = some v5 ∧ (cur.drewN n).cell? ⟨k0, 6, none⟩ = some v6 ∧ (cur.drewN n).cell? ⟨k0, 7, none⟩ = some v7 ∧ Below w.heap.size w (cur.drewN n)) : cur.heap[k0]? = some A0 ∧ cur.cell? ⟨k0, 0, none⟩ = some v0 ∧ cur.cell? ⟨k0, 1, none⟩ = some v1 ∧ cur.cell? ⟨k0, 2, none⟩ = some v2 ∧ cur.cell? ⟨k0, 3, none⟩ = some v3 ∧ cur.cell? ⟨k0, 4, none⟩ = some v4 ∧ cur.cell? ⟨k0, 5, none⟩ = some v5 ∧ cur.cell? ⟨k0, 6, none⟩ = some v6 ∧ cur.cell? ⟨k0, 7, none⟩ = some v7 ∧ Below w.heap.size w cur := by
 obtain ⟨a0, c0, c1, c2, c3, c4, c5, c6, c7, d⟩ := h
 exact ⟨a0, c0, c1, c2, c3, c4, c5, c6, c7, ⟨d.os, d.tape, d.output, d.size, d.block⟩⟩
def ctxC : List UInt8 := [99, 108, 97, 105, 109]
/-- what Verify answers -/
def VouchedC (p : Int) (c : CV) : Prop := VerOk p c.e c.s ctxC (coreC c)
instance (p : Int) (c : CV) : Decidable (VouchedC p c) := by
 unfold VouchedC
 infer_instance
theorem verifyC_any (p : Int) (c : CV) (w : World) (hpi : I64 p) (hO : COk c) (hp : c.prev.size ≤ 2000000) (hg : Glob w) (hml : MLen w) :
 Calls Tryz.prog 69 #[.int .i64 p, .agg #[.int .i64 c.office, .int .i64 c.hour, .int .i64 c.inn, .int .i64 c.out, .int .i64 c.store, .string c.prev, .int .i64 c.e, .int .i64 c.s]] w fun e w' => e = .returned (.bool (decide (VouchedC p c))) ∧ Below w.heap.size w w' := by
 have HM := Lib.hid hml
 have HG := Lib.hid hg
 obtain ⟨A, hA⟩ : ∃ A : ByteArray, A = ⟨(coreC c).toArray⟩ := ⟨_, rfl⟩
 have HCo : Hid (∀ w0, MLen w0 → Calls Tryz.prog 86 #[.agg #[.int .i64 c.office, .int .i64 c.hour, .int .i64 c.inn, .int .i64 c.out, .int .i64 c.store, .string c.prev, .int .i64 c.e, .int .i64 c.s]] w0 fun e w' => e = .returned (.string A) ∧ Below w0.heap.size w0 w') := Lib.hid (fun w0 h => by
  rw [hA]
  exact coreC_any c w0 hO (by omega) h)
 have hAs : A.size ≤ 10000000 := by
  have l2 := textL_len c.prev.data.toList
  have l3 : c.prev.data.toList.length = c.prev.size := by simp
  have h : (coreC c).length ≤ 4000100 := by
   obtain ⟨h1, h2, h3, h4, h5, -⟩ := hO
   have := intL_len h1; have := intL_len h2; have := intL_len h3; have := intL_len h4; have := intL_len h5
   simp [coreC, textC]
   omega
  have h2 : A.data.toList.length ≤ 10000000 := by rw [hA]; show (coreC c).length ≤ 10000000; omega
  exact h2
 obtain ⟨b, hb⟩ : ∃ b, b = decide (VouchedC p c) := ⟨_, rfl⟩
 have HV : Hid (∀ w0, Glob w0 → MLen w0 → Calls Tryz.prog 94 #[.int .i64 p, .string ⟨#[99, 108, 97, 105, 109]⟩, .string A, .agg #[.int .i64 c.e, .int .i64 c.s]] w0 fun e w' => e = .returned (.bool b) ∧ Below w0.heap.size w0 w') := Lib.hid (fun w0 h1 h2 => by
  have h := verify_any p c.e c.s ⟨#[99, 108, 97, 105, 109]⟩ A w0 hpi (by decide) hAs h1 h2
  have e : A.data.toList = coreC c := by rw [hA]
  rw [e] at h
  rw [hb]
  exact h)
 rw [← hb]
 clear hml hg hA hAs hb hO hpi hp
 go_enter Tryz.func69, Tryz.ntmps69
 go_upto_region 1 with fail
 have HB1 := Lib.hid ((Below.refl w.heap.size w).alloc (Nat.le_refl _) (.cells #[.int .i64 c.office, .int .i64 c.hour, .int .i64 c.inn, .int .i64 c.out, .int .i64 c.store, .string c.prev, .int .i64 c.e, .int .i64 c.s] 63))
 have Kh1 := Lib.hid (heap_alloc_new w (.cells #[.int .i64 c.office, .int .i64 c.hour, .int .i64 c.inn, .int .i64 c.out, .int .i64 c.store, .string c.prev, .int .i64 c.e, .int .i64 c.s] 63))
 generalize w.alloc (.cells #[.int .i64 c.office, .int .i64 c.hour, .int .i64 c.inn, .int .i64 c.out, .int .i64 c.store, .string c.prev, .int .i64 c.e, .int .i64 c.s] 63) = w1 at *
 have HS0 : Hid (w1.heap[w.heap.size]? = some (.cells #[.int .i64 c.office, .int .i64 c.hour, .int .i64 c.inn, .int .i64 c.out, .int .i64 c.store, .string c.prev, .int .i64 c.e, .int .i64 c.s] 63) ∧ w1.cell? ⟨w.heap.size, 0, none⟩ = some (.int .i64 c.office) ∧ w1.cell? ⟨w.heap.size, 1, none⟩ = some (.int .i64 c.hour) ∧ w1.cell? ⟨w.heap.size, 2, none⟩ = some (.int .i64 c.inn) ∧ w1.cell? ⟨w.heap.size, 3, none⟩ = some (.int .i64 c.out) ∧ w1.cell? ⟨w.heap.size, 4, none⟩ = some (.int .i64 c.store) ∧ w1.cell? ⟨w.heap.size, 5, none⟩ = some (.string c.prev) ∧ w1.cell? ⟨w.heap.size, 6, none⟩ = some (.int .i64 c.e) ∧ w1.cell? ⟨w.heap.size, 7, none⟩ = some (.int .i64 c.s) ∧ Below w.heap.size w w1) := Lib.hid ⟨Kh1.out, (cell_of_row _ _ _ _ _ _ Kh1.out).trans rfl, (cell_of_row _ _ _ _ _ _ Kh1.out).trans rfl, (cell_of_row _ _ _ _ _ _ Kh1.out).trans rfl, (cell_of_row _ _ _ _ _ _ Kh1.out).trans rfl, (cell_of_row _ _ _ _ _ _ Kh1.out).trans rfl, (cell_of_row _ _ _ _ _ _ Kh1.out).trans rfl, (cell_of_row _ _ _ _ _ _ Kh1.out).trans rfl, (cell_of_row _ _ _ _ _ _ Kh1.out).trans rfl, HB1.out⟩
 clear Kh1 HB1
 go_region_held3 (fun w' => w'.heap[w.heap.size]? = some (.cells #[.int .i64 c.office, .int .i64 c.hour, .int .i64 c.inn, .int .i64 c.out, .int .i64 c.store, .string c.prev, .int .i64 c.e, .int .i64 c.s] 63) ∧ w'.cell? ⟨w.heap.size, 0, none⟩ = some (.int .i64 c.office) ∧ w'.cell? ⟨w.heap.size, 1, none⟩ = some (.int .i64 c.hour) ∧ w'.cell? ⟨w.heap.size, 2, none⟩ = some (.int .i64 c.inn) ∧ w'.cell? ⟨w.heap.size, 3, none⟩ = some (.int .i64 c.out) ∧ w'.cell? ⟨w.heap.size, 4, none⟩ = some (.int .i64 c.store) ∧ w'.cell? ⟨w.heap.size, 5, none⟩ = some (.string c.prev) ∧ w'.cell? ⟨w.heap.size, 6, none⟩ = some (.int .i64 c.e) ∧ w'.cell? ⟨w.heap.size, 7, none⟩ = some (.int .i64 c.s) ∧ Below w.heap.size w w') (first | assumption | exact HS0.out | exact bc_step (by assumption) hb | exact bc_stepN (by assumption) _ | exact bc_stepA (by assumption) | exact bc_stepU (by assumption) | exact bc_stepN (bc_stepU (by assumption)) _) ((first | (go_at_call 86; refine (HCo.out _ (HM.out.up (show _ ∧ _ ∧ _ ∧ _ ∧ _ ∧ _ ∧ _ ∧ _ ∧ _ ∧ Below w.heap.size w _ by assumption).2.2.2.2.2.2.2.2.2)).mono ?_; rintro e w' ⟨rfl, hb⟩) | (go_at_call 94; refine (HV.out _ (HG.out.below (show _ ∧ _ ∧ _ ∧ _ ∧ _ ∧ _ ∧ _ ∧ _ ∧ _ ∧ Below w.heap.size w _ by assumption).2.2.2.2.2.2.2.2.2 HG.out.size) (HM.out.up (show _ ∧ _ ∧ _ ∧ _ ∧ _ ∧ _ ∧ _ ∧ _ ∧ _ ∧ Below w.heap.size w _ by assumption).2.2.2.2.2.2.2.2.2)).mono ?_; rintro e w' ⟨rfl, hb⟩)))
 rename World => w2
 rename _ ∧ _ => hFin
 obtain ⟨qK, -, -, -, -, -, -, -, -, qBel⟩ := hFin
 have Kh2 := Lib.hid qK
 have HB2 := Lib.hid qBel
 clear HS0 qBel qK
 have cK0 : w2.cell? ⟨w.heap.size, 0, none⟩ = some (.int .i64 c.office) := (cell_of_row _ _ _ _ _ _ Kh2.out).trans rfl
 have cK1 : w2.cell? ⟨w.heap.size, 1, none⟩ = some (.int .i64 c.hour) := (cell_of_row _ _ _ _ _ _ Kh2.out).trans rfl
 have cK2 : w2.cell? ⟨w.heap.size, 2, none⟩ = some (.int .i64 c.inn) := (cell_of_row _ _ _ _ _ _ Kh2.out).trans rfl
 have cK3 : w2.cell? ⟨w.heap.size, 3, none⟩ = some (.int .i64 c.out) := (cell_of_row _ _ _ _ _ _ Kh2.out).trans rfl
 have cK4 : w2.cell? ⟨w.heap.size, 4, none⟩ = some (.int .i64 c.store) := (cell_of_row _ _ _ _ _ _ Kh2.out).trans rfl
 have cK5 : w2.cell? ⟨w.heap.size, 5, none⟩ = some (.string c.prev) := (cell_of_row _ _ _ _ _ _ Kh2.out).trans rfl
 have cK6 : w2.cell? ⟨w.heap.size, 6, none⟩ = some (.int .i64 c.e) := (cell_of_row _ _ _ _ _ _ Kh2.out).trans rfl
 have cK7 : w2.cell? ⟨w.heap.size, 7, none⟩ = some (.int .i64 c.s) := (cell_of_row _ _ _ _ _ _ Kh2.out).trans rfl
 go_wp2_with fail
 go_ret
 exact ⟨rfl, HB2.out⟩
theorem bp_step {w cur w' : World} {k0 : Nat} {A0 : Obj} {v0 v1 v2 v3 v4 v5 : Value} (h : cur.heap[k0]? = some A0 ∧ cur.cell? ⟨k0, 0, none⟩ = some v0 ∧ cur.cell? ⟨k0, 1, none⟩ = some v1 ∧ cur.cell? ⟨k0, 2, none⟩ = some v2 ∧ cur.cell? ⟨k0, 3, none⟩ = some v3 ∧ cur.cell? ⟨k0, 4, none⟩ = some v4 ∧ cur.cell? ⟨k0, 5, none⟩ = some v5 ∧ Below w.heap.size w cur) (hb : Below cur.heap.size cur w') : w'.heap[k0]? = some A0 ∧ w'.cell? ⟨k0, 0, none⟩ = some v0 ∧ w'.cell? ⟨k0, 1, none⟩ = some v1 ∧ w'.cell? ⟨k0, 2, none⟩ = some v2 ∧ w'.cell? ⟨k0, 3, none⟩ = some v3 ∧ w'.cell? ⟨k0, 4, none⟩ = some v4 ∧ w'.cell? ⟨k0, 5, none⟩ = some v5 ∧ Below w.heap.size w w' := by
 obtain ⟨a0, c0, c1, c2, c3, c4, c5, d⟩ := h
 exact ⟨blk_below a0 hb (blk_lt a0), (hb.cell (p := ⟨_, 0, none⟩) (blk_lt a0)).trans c0, (hb.cell (p := ⟨_, 1, none⟩) (blk_lt a0)).trans c1, (hb.cell (p := ⟨_, 2, none⟩) (blk_lt a0)).trans c2, (hb.cell (p := ⟨_, 3, none⟩) (blk_lt a0)).trans c3, (hb.cell (p := ⟨_, 4, none⟩) (blk_lt a0)).trans c4, (hb.cell (p := ⟨_, 5, none⟩) (blk_lt a0)).trans c5, d.trans (hb.mono d.size)⟩
theorem bp_stepN {w cur : World} {k0 : Nat} {A0 : Obj} {v0 v1 v2 v3 v4 v5 : Value} (h : cur.heap[k0]? = some A0 ∧ cur.cell? ⟨k0, 0, none⟩ = some v0 ∧ cur.cell? ⟨k0, 1, none⟩ = some v1 ∧ cur.cell? ⟨k0, 2, none⟩ = some v2 ∧ cur.cell? ⟨k0, 3, none⟩ = some v3 ∧ cur.cell? ⟨k0, 4, none⟩ = some v4 ∧ cur.cell? ⟨k0, 5, none⟩ = some v5 ∧ Below w.heap.size w cur) (n : Nat) : (cur.drewN n).heap[k0]? = some A0 ∧ (cur.drewN n).cell? ⟨k0, 0, none⟩ = some v0 ∧ (cur.drewN n).cell? ⟨k0, 1, none⟩ = some v1 ∧ (cur.drewN n).cell? ⟨k0, 2, none⟩ = some v2 ∧ (cur.drewN n).cell? ⟨k0, 3, none⟩ = some v3 ∧ (cur.drewN n).cell? ⟨k0, 4, none⟩ = some v4 ∧ (cur.drewN n).cell? ⟨k0, 5, none⟩ = some v5 ∧ Below w.heap.size w (cur.drewN n) := by
 obtain ⟨a0, c0, c1, c2, c3, c4, c5, d⟩ := h
 exact ⟨a0, c0, c1, c2, c3, c4, c5, below_drewN d⟩
theorem bp_stepA {w cur : World} {k0 : Nat} {A0 : Obj} {v0 v1 v2 v3 v4 v5 : Value} {o : Obj} (h : cur.heap[k0]? = some A0 ∧ cur.cell? ⟨k0, 0, none⟩ = some v0 ∧ cur.cell? ⟨k0, 1, none⟩ = some v1 ∧ cur.cell? ⟨k0, 2, none⟩ = some v2 ∧ cur.cell? ⟨k0, 3, none⟩ = some v3 ∧ cur.cell? ⟨k0, 4, none⟩ = some v4 ∧ cur.cell? ⟨k0, 5, none⟩ = some v5 ∧ Below w.heap.size w cur) : (cur.alloc o).heap[k0]? = some A0 ∧ (cur.alloc o).cell? ⟨k0, 0, none⟩ = some v0 ∧ (cur.alloc o).cell? ⟨k0, 1, none⟩ = some v1 ∧ (cur.alloc o).cell? ⟨k0, 2, none⟩ = some v2 ∧ (cur.alloc o).cell? ⟨k0, 3, none⟩ = some v3 ∧ (cur.alloc o).cell? ⟨k0, 4, none⟩ = some v4 ∧ (cur.alloc o).cell? ⟨k0, 5, none⟩ = some v5 ∧ Below w.heap.size w (cur.alloc o) := bp_step h ((Below.refl _ _).alloc (Nat.le_refl _) o)
theorem bp_stepU {w cur : World} {k0 : Nat} {A0 : Obj} {v0 v1 v2 v3 v4 v5 : Value} {n : Nat} (h : (cur.drewN n).heap[k0]? = some A0 ∧ (cur.drewN n).cell? ⟨k0, 0, none⟩ = some v0 ∧ (cur.drewN n).cell? ⟨k0, 1, none⟩ = some v1 ∧ (cur.drewN n).cell? ⟨k0, 2, none⟩ = some v2 ∧ (cur.drewN n).cell? ⟨k0, 3, none⟩ = some v3 ∧ (cur.drewN n).cell? ⟨k0, 4, none⟩ = some v4 ∧ (cur.drewN n).cell? ⟨k0, 5, none⟩ = some v5 ∧ Below w.heap.size w (cur.drewN n)) : cur.heap[k0]? = some A0 ∧ cur.cell? ⟨k0, 0, none⟩ = some v0 ∧ cur.cell? ⟨k0, 1, none⟩ = some v1 ∧ cur.cell? ⟨k0, 2, none⟩ = some v2 ∧ cur.cell? ⟨k0, 3, none⟩ = some v3 ∧ cur.cell? ⟨k0, 4, none⟩ = some v4 ∧ cur.cell? ⟨k0, 5, none⟩ = some v5 ∧ Below w.heap.size w cur := by
 obtain ⟨a0, c0, c1, c2, c3, c4, c5, d⟩ := h
 exact ⟨a0, c0, c1, c2, c3, c4, c5, ⟨d.os, d.tape, d.output, d.size, d.block⟩⟩
def ctxP : List UInt8 := [112, 114, 111, 109, 105, 115, 101]
/-- what Verify answers -/
def VouchedP (p : Int) (c : PV) : Prop := VerOk p c.e c.s ctxP (coreP c)
instance (p : Int) (c : PV) : Decidable (VouchedP p c) := by
 unfold VouchedP
 infer_instance
theorem verifyP_any (p : Int) (c : PV) (w : World) (hpi : I64 p) (hO : POk c) (hg : Glob w) (hml : MLen w) :
 Calls Tryz.prog 87 #[.int .i64 p, .agg #[.int .i64 c.office, .int .i64 c.since, .int .i64 c.till, .int .i64 c.litres, .int .i64 c.e, .int .i64 c.s]] w fun e w' => e = .returned (.bool (decide (VouchedP p c))) ∧ Below w.heap.size w w' := by
 have HM := Lib.hid hml
 have HG := Lib.hid hg
 obtain ⟨A, hA⟩ : ∃ A : ByteArray, A = ⟨(coreP c).toArray⟩ := ⟨_, rfl⟩
 have HCo : Hid (∀ w0, Calls Tryz.prog 120 #[.agg #[.int .i64 c.office, .int .i64 c.since, .int .i64 c.till, .int .i64 c.litres, .int .i64 c.e, .int .i64 c.s]] w0 fun e w' => e = .returned (.string A) ∧ Below w0.heap.size w0 w') := Lib.hid (fun w0 => by
  rw [hA]
  exact coreP_any c w0 hO)
 have hAs : A.size ≤ 2000 := by
  have h := coreP_len hO
  have h2 : A.data.toList.length ≤ 2000 := by rw [hA]; show (coreP c).length ≤ 2000; omega
  exact h2
 obtain ⟨b, hb⟩ : ∃ b, b = decide (VouchedP p c) := ⟨_, rfl⟩
 have HV : Hid (∀ w0, Glob w0 → MLen w0 → Calls Tryz.prog 94 #[.int .i64 p, .string ⟨#[112, 114, 111, 109, 105, 115, 101]⟩, .string A, .agg #[.int .i64 c.e, .int .i64 c.s]] w0 fun e w' => e = .returned (.bool b) ∧ Below w0.heap.size w0 w') := Lib.hid (fun w0 h1 h2 => by
  have h := verify_any p c.e c.s ⟨#[112, 114, 111, 109, 105, 115, 101]⟩ A w0 hpi (by decide) (Nat.le_trans hAs (by decide)) h1 h2
  have e : A.data.toList = coreP c := by rw [hA]
  rw [e] at h
  rw [hb]
  exact h)
 rw [← hb]
 clear hml hg hA hAs hb hO hpi
 go_enter Tryz.func87, Tryz.ntmps87
 go_upto_region 1 with fail
 have HB1 := Lib.hid ((Below.refl w.heap.size w).alloc (Nat.le_refl _) (.cells #[.int .i64 c.office, .int .i64 c.since, .int .i64 c.till, .int .i64 c.litres, .int .i64 c.e, .int .i64 c.s] 38))
 have Kh1 := Lib.hid (heap_alloc_new w (.cells #[.int .i64 c.office, .int .i64 c.since, .int .i64 c.till, .int .i64 c.litres, .int .i64 c.e, .int .i64 c.s] 38))
 generalize w.alloc (.cells #[.int .i64 c.office, .int .i64 c.since, .int .i64 c.till, .int .i64 c.litres, .int .i64 c.e, .int .i64 c.s] 38) = w1 at *
 have HS0 : Hid (w1.heap[w.heap.size]? = some (.cells #[.int .i64 c.office, .int .i64 c.since, .int .i64 c.till, .int .i64 c.litres, .int .i64 c.e, .int .i64 c.s] 38) ∧ w1.cell? ⟨w.heap.size, 0, none⟩ = some (.int .i64 c.office) ∧ w1.cell? ⟨w.heap.size, 1, none⟩ = some (.int .i64 c.since) ∧ w1.cell? ⟨w.heap.size, 2, none⟩ = some (.int .i64 c.till) ∧ w1.cell? ⟨w.heap.size, 3, none⟩ = some (.int .i64 c.litres) ∧ w1.cell? ⟨w.heap.size, 4, none⟩ = some (.int .i64 c.e) ∧ w1.cell? ⟨w.heap.size, 5, none⟩ = some (.int .i64 c.s) ∧ Below w.heap.size w w1) := Lib.hid ⟨Kh1.out, (cell_of_row _ _ _ _ _ _ Kh1.out).trans rfl, (cell_of_row _ _ _ _ _ _ Kh1.out).trans rfl, (cell_of_row _ _ _ _ _ _ Kh1.out).trans rfl, (cell_of_row _ _ _ _ _ _ Kh1.out).trans rfl, (cell_of_row _ _ _ _ _ _ Kh1.out).trans rfl, (cell_of_row _ _ _ _ _ _ Kh1.out).trans rfl, HB1.out⟩
 clear Kh1 HB1
 go_region_held3 (fun w' => w'.heap[w.heap.size]? = some (.cells #[.int .i64 c.office, .int .i64 c.since, .int .i64 c.till, .int .i64 c.litres, .int .i64 c.e, .int .i64 c.s] 38) ∧ w'.cell? ⟨w.heap.size, 0, none⟩ = some (.int .i64 c.office) ∧ w'.cell? ⟨w.heap.size, 1, none⟩ = some (.int .i64 c.since) ∧ w'.cell? ⟨w.heap.size, 2, none⟩ = some (.int .i64 c.till) ∧ w'.cell? ⟨w.heap.size, 3, none⟩ = some (.int .i64 c.litres) ∧ w'.cell? ⟨w.heap.size, 4, none⟩ = some (.int .i64 c.e) ∧ w'.cell? ⟨w.heap.size, 5, none⟩ = some (.int .i64 c.s) ∧ Below w.heap.size w w') (first | assumption | exact HS0.out | exact bp_step (by assumption) hb | exact bp_stepN (by assumption) _ | exact bp_stepA (by assumption) | exact bp_stepU (by assumption) | exact bp_stepN (bp_stepU (by assumption)) _) ((first | (go_at_call 120; refine (HCo.out _).mono ?_; rintro e w' ⟨rfl, hb⟩) | (go_at_call 94; refine (HV.out _ (HG.out.below (show _ ∧ _ ∧ _ ∧ _ ∧ _ ∧ _ ∧ _ ∧ Below w.heap.size w _ by assumption).2.2.2.2.2.2.2 HG.out.size) (HM.out.up (show _ ∧ _ ∧ _ ∧ _ ∧ _ ∧ _ ∧ _ ∧ Below w.heap.size w _ by assumption).2.2.2.2.2.2.2)).mono ?_; rintro e w' ⟨rfl, hb⟩)))
 rename World => w2
 rename _ ∧ _ => hFin
 obtain ⟨qK, -, -, -, -, -, -, qBel⟩ := hFin
 have Kh2 := Lib.hid qK
 have HB2 := Lib.hid qBel
 clear HS0 qBel qK
 have cK0 : w2.cell? ⟨w.heap.size, 0, none⟩ = some (.int .i64 c.office) := (cell_of_row _ _ _ _ _ _ Kh2.out).trans rfl
 have cK1 : w2.cell? ⟨w.heap.size, 1, none⟩ = some (.int .i64 c.since) := (cell_of_row _ _ _ _ _ _ Kh2.out).trans rfl
 have cK2 : w2.cell? ⟨w.heap.size, 2, none⟩ = some (.int .i64 c.till) := (cell_of_row _ _ _ _ _ _ Kh2.out).trans rfl
 have cK3 : w2.cell? ⟨w.heap.size, 3, none⟩ = some (.int .i64 c.litres) := (cell_of_row _ _ _ _ _ _ Kh2.out).trans rfl
 have cK4 : w2.cell? ⟨w.heap.size, 4, none⟩ = some (.int .i64 c.e) := (cell_of_row _ _ _ _ _ _ Kh2.out).trans rfl
 have cK5 : w2.cell? ⟨w.heap.size, 5, none⟩ = some (.int .i64 c.s) := (cell_of_row _ _ _ _ _ _ Kh2.out).trans rfl
 go_wp2_with fail
 go_ret
 exact ⟨rfl, HB2.out⟩
end Go.Proofs.YtjbjpkhibcnenaaGreatDoor
