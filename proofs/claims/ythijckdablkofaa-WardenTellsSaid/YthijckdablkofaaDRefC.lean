/- The reference's wardens: Ack, Open. -/
import Derived.Test.YthijckdablkofaaDRefB
import Derived.StillTailTactics
namespace Go.Proofs.Ythijckdablkofaa
open Go.RowKit
theorem roRow_set : ∀ {l : List RO} {i : Nat} {x : RO}, l[i]? = some x → (roRow l).set (i * 4 + 3) (.bool true) = roRow (l.set i ⟨x.town, x.level, x.hour, true⟩)
  | [], i, x, h => by simp at h
  | y :: l, 0, x, h => by
    simp only [List.getElem?_cons_zero, Option.some.injEq] at h
    subst h
    rfl
  | y :: l, i + 1, x, h => by
    simp only [List.getElem?_cons_succ] at h
    have ih := roRow_set h
    have e : ∀ (z : RO) (r : List RO), roRow (z :: r) = roCl z ++ roRow r := fun z r => by simp [roRow]
    rw [List.set_cons_succ, e, e, ← ih, show (i + 1) * 4 + 3 = (roCl y).length + (i * 4 + 3) by simp [roCl]; omega, List.set_append_right _ _ (Nat.le_add_right _ _), Nat.add_sub_cancel_left]
theorem owns_drewN {w : World} {base size n : Nat} {e : TypeId} {v : Value} {xs : List Value} (h : w.ownsRow base e size v n xs) (k : Nat) : (w.drewN k).ownsRow base e size v n xs := h
theorem rlast_still (qb base : Nat) (q : RS) (t : Int) (w : World) (hQ : QAt w qb base q) (hl : q.l.length ≤ 1000) :
    Calls Try.prog 25 #[.pointer (some ⟨qb, 0, none⟩), .int .i64 t] w fun e w' => e = .returned (.int .i64 (lastI t q.l)) ∧ w' = w :=
  (rlast_any qb base q t w hQ hl).mono fun _ _ h => ⟨h.1, h.2.symm⟩
set_option maxRecDepth 100000 in
set_option maxHeartbeats 4000000 in
theorem rack_any (qb base : Nat) (q : RS) (c : CV) (w : World) (hQ : QAt w qb base q) (hl : q.l.length ≤ 1000) (hn : q.n ≤ 16) (hc : COk c) :
    Calls Try.prog 14 #[.pointer (some ⟨qb, 0, none⟩), .agg #[.int .i64 c.town, .int .i64 c.level, .int .i64 c.number, .int .i64 c.warden]] w fun e w' => e = .returned (.bool (ackR q c).1) ∧ QAt w' qb base (ackR q c).2 ∧ Below base w w' ∧ Typ w w' := by
  have HQ := Lib.hid (hQ.below ((Below.refl w.heap.size w).alloc (Nat.le_refl _) (.cells #[.int .i64 c.town, .int .i64 c.level, .int .i64 c.number, .int .i64 c.warden] 29)))
  have hbl : base ≤ w.heap.size := Nat.le_trans hQ.lo (Nat.le_of_lt hQ.lt)
  have HB := Lib.hid ((Below.refl base w).alloc hbl (.cells #[.int .i64 c.town, .int .i64 c.level, .int .i64 c.number, .int .i64 c.warden] 29))
  have HC := Lib.hid (heap_alloc_new w (.cells #[.int .i64 c.town, .int .i64 c.level, .int .i64 c.number, .int .i64 c.warden] 29))
  have HCO := Lib.hid hc
  have HY := Lib.hid ((Typ.refl w).below ((Below.refl w.heap.size w).alloc (Nat.le_refl _) (.cells #[.int .i64 c.town, .int .i64 c.level, .int .i64 c.number, .int .i64 c.warden] 29)))
  clear hQ hc
  go_enter Try.func14, Try.ntmps14
  go_upto_region 1 with fail
  generalize w.alloc (.cells #[.int .i64 c.town, .int .i64 c.level, .int .i64 c.number, .int .i64 c.warden] 29) = w2 at *
  generalize w.heap.size = pc at *
  obtain ⟨y0, y1, y2, y3⟩ := row4 HC.out
  go_wp2_with fail
  refine (rawaits_any qb base q c _ HQ.out hl hn HCO.out).mono ?_
  rintro e w3 ⟨rfl, hb⟩
  have HQ3 := Lib.hid (HQ.out.below hb)
  have HC3 := Lib.hid (blk_below HC.out hb (blk_lt HC.out))
  have HB3 := Lib.hid (HB.out.trans (hb.mono (Nat.le_trans HQ.out.lo (Nat.le_of_lt HQ.out.lt))))
  have HY3 := Lib.hid (HY.out.below hb)
  clear hb y0 y1 y2 y3 HQ HC HB HY
  obtain ⟨y0, y1, y2, y3⟩ := row4 HC3.out
  obtain ⟨aw, haw⟩ : ∃ aw, aw = awaitsR q c := ⟨_, rfl⟩
  have HAW := Lib.hid haw
  rw [← haw]
  clear haw
  cases aw with
  | false =>
    have HF : Hid (ackR q c = (false, q)) := Lib.hid (by unfold ackR; rw [← HAW.out]; rfl)
    go_wp2_with fail
    go_ret
    exact ⟨by rw [HF.out]; rfl, by rw [HF.out]; exact HQ3.out, HB3.out, HY3.out⟩
  | true =>
    have HF : Hid (ackR q c = (true, ⟨q.n, setDone q.l (lastN c.town q.l - 1)⟩)) := Lib.hid (by unfold ackR; rw [← HAW.out]; rfl)
    have h0 : 0 ≤ lastI c.town q.l := by
      by_cases h0 : 0 ≤ lastI c.town q.l
      · exact h0
      · have := HAW.out
        unfold awaitsR at this
        rw [lastI_none h0] at this
        cases this
    obtain ⟨x, hx, hxt, hg, htn⟩ := lastI_get h0
    obtain ⟨a, cap, hrow, hown, hel⟩ := HQ3.out.open
    obtain ⟨r0, r1⟩ := row2 hrow
    obtain ⟨b, ha, hbb, hbl2, hrg⟩ := hel _ x hx
    subst ha
    have c3 := (rangeR hrg).2.2.2
    have f3 : w3.frozen? ⟨b, (lastN c.town q.l - 1) * 4 + 3, none⟩ = false := by
      rcases hown.2 with ⟨h, _⟩ | ⟨g, cap', cur, h, _, hgg, _⟩
      · cases h
      · simp only [Value.slice.injEq, Option.some.injEq, Addr.mk.injEq, and_true] at h
        rw [h.1] at *
        exact frozen_of_row _ _ _ _ _ hgg
    have q1 : 0 ≤ lastI c.town q.l := h0
    have hli : lastI c.town q.l < q.l.length := by have := (List.getElem?_eq_some_iff.1 hx).1; omega
    have HX := Lib.hid hx
    have HROW := Lib.hid hrow
    have HOWN := Lib.hid hown
    clear hx hxt hg hrow hown hel hrg
    go_wp2_with fail
    refine wp_region_still_tail 10 (by kernel_rfl) (by kernel_rfl) ?_
    simp only [List.take_succ_cons, List.take_zero, List.drop_succ_cons, List.drop_zero]
    repeat still_step
    still_call (rlast_still qb base q c.town _ (HQ3.out.drewN 1) hl)
    repeat still_step
    refine wpStill_nil ?_
    change wpList _ _ _ _ _ w3.drew
    have hst := (owns_drewN HOWN.out 1).stored ((lastN c.town q.l - 1) * 4 + 3) (.bool true)
    have hse : setDone q.l (lastN c.town q.l - 1) = q.l.set (lastN c.town q.l - 1) ⟨x.town, x.level, x.hour, true⟩ := by unfold setDone; rw [HX.out]
    rw [roRow_set HX.out, ← hse] at hst
    have hgq : some qb ≠ some b := fun e => own_ne HOWN.out HROW.out (by decide) (by rw [Value.ownBlock]; exact e.symm)
    have HQ4 : Hid (QAt (w3.drew.setCell ⟨b, (lastN c.town q.l - 1) * 4 + 3, none⟩ (.bool true)) qb base ⟨q.n, setDone q.l (lastN c.town q.l - 1)⟩) := Lib.hid ⟨HQ3.out.lo, _, (hst.2.block qb (blk_lt HROW.out) hgq).trans HROW.out, by
      simp only
      rw [setDone_len]
      exact hst.1⟩
    have HB4 := Lib.hid (HB3.out.drew.setCell (p := ⟨b, (lastN c.town q.l - 1) * 4 + 3, none⟩) hbb (.bool true))
    have HY4 := Lib.hid ((show Typ w w3.drew from HY3.out).own (owns_drewN HOWN.out 1) hst.2)
    clear hst hse
    go_wp2_with fail
    go_ret
    exact ⟨by rw [HF.out]; rfl, by rw [HF.out]; exact HQ4.out, HB4.out, HY4.out⟩
theorem isOpen_some {l : List RO} {t : Int} {x : RO} (h : getR l t = some x) : isOpen l t = !x.done := by
  unfold isOpen
  rw [h]
theorem isOpen_none {l : List RO} {t : Int} (h : ¬ 0 ≤ lastI t l) : isOpen l t = false := by
  unfold lastI at h
  unfold isOpen getR
  rw [if_pos (by omega)]
theorem openR_len (l : List RO) (k : Nat) : (openR l k).length ≤ k := by
  unfold openR
  refine Nat.le_trans (List.length_filter_le _ _) ?_
  rw [List.length_map, List.length_range]
  exact Nat.le_refl _
set_option maxRecDepth 100000 in
set_option maxHeartbeats 4000000 in
theorem ropen_any (qb base : Nat) (q : RS) (w : World) (hQ : QAt w qb base q) (hl : q.l.length ≤ 1000) :
    Calls Try.prog 22 #[.pointer (some ⟨qb, 0, none⟩)] w fun e w' => ∃ v, e = .returned v ∧ w'.ownsRow w.heap.size 3 1 v (openR q.l 40).length (intV (openR q.l 40)) ∧ Below w.heap.size w w' := by
  obtain ⟨iI, hiI, hzI, hsI, hbI⟩ := info_parts infoInt
  have HQ := Lib.hid hQ
  clear hQ
  go_enter Try.func22, Try.ntmps22
  go_wp2_with fail
  go_loopw [3, 4] (fun tv iv wr => ∃ k : Nat, k ≤ 40 ∧ iv = .int .i64 k ∧ wr.ownsRow w.heap.size 3 1 tv (openR q.l k).length (intV (openR q.l k)) ∧ Below w.heap.size w wr) (fun _ iv _ => 40 - (intOf iv).toNat)
  case atStart => exact ⟨0, by omega, rfl, World.ownsRow_nil _ _ _ _, Below.refl _ _⟩
  case round =>
    obtain ⟨k, hk, rfl, hown, hB⟩ := hrel
    have HO := Lib.hid hown
    have HB := Lib.hid hB
    have HQk := Lib.hid (HQ.out.below hB)
    clear hown hB
    by_cases hlt : k < 40
    · have hlen := openR_len q.l k
      have HS := Lib.hid (openR_succ q.l k)
      go_wp2_with fail
      refine (rlast_any qb base q (k : Int) _ HQk.out hl).mono ?_
      rintro e w3 ⟨rfl, rfl⟩
      by_cases h0 : 0 ≤ lastI k q.l
      · obtain ⟨x, hx, hxt, hg, htn⟩ := lastI_get h0
        obtain ⟨a, cap, hrow, _, hel⟩ := HQk.out.open
        obtain ⟨r0, r1⟩ := row2 hrow
        obtain ⟨b, ha, _, _, hrg⟩ := hel _ x hx
        subst ha
        have c3 := (rangeR hrg).2.2.2
        rw [← htn] at c3
        have hlt2 : lastI k q.l < q.l.length := by have := (List.getElem?_eq_some_iff.1 hx).1; omega
        have HIO := Lib.hid (isOpen_some hg)
        clear hx hxt hg htn hrow hel hrg
        cases hd : x.done with
        | true =>
          have HE : Hid (openR q.l (k + 1) = openR q.l k) := Lib.hid (by rw [HS.out, HIO.out, hd]; simp)
          rw [hd] at c3
          clear hd
          go_wp2_with fail
          go_roundw
          case rel => exact ⟨k + 1, by omega, by go_num, by rw [HE.out]; exact HO.out, HB.out⟩
          case measure => simp [intOf]; omega
        | false =>
          have HE : Hid (openR q.l (k + 1) = openR q.l k ++ [(k : Int)]) := Lib.hid (by rw [HS.out, HIO.out, hd]; simp)
          rw [hd] at c3
          clear hd
          have hnew : ∀ i u, [Value.int .i64 (k : Int)][i]? = some u → (wr.alloc (.cells #[.int .i64 (k : Int)] 3)).cell? ((⟨wr.heap.size, 0, none⟩ : Addr).add i) = some u := fun i u hi => by
            rw [Addr.add_mid, Nat.zero_add, cell_of_row _ _ _ _ _ _ (heap_alloc_new wr (.cells #[.int .i64 (k : Int)] 3)), ← Array.getElem?_toList]
            exact hi
          have HO1 := Lib.hid (HO.out.alloc (.cells #[.int .i64 (k : Int)] 3))
          have HB1 := Lib.hid (HB.out.alloc HB.out.size (.cells #[.int .i64 (k : Int)] 3))
          go_wp2_with (at_builtin; refine Hid.out ?_)
          refine Lib.hid ?_
          refine wpList_append_own _ rfl _ _ 38 rfl w.heap.size 3 iI (.int .i64 0) 1 8 undIs hiI hzI hsI hbI rfl (by decide) _ (openR q.l k).length _ rfl HO1.out ⟨wr.heap.size, 0, none⟩ 1 1 [.int .i64 (k : Int)] rfl rfl hnew (by intro u hu; rw [List.mem_singleton] at hu; subst hu; rfl) (by unfold maxLen; omega) (by omega) HB1.out.size ?_
          intro v' w7 hown7 hgr7 _
          have HO7 : Hid (w7.ownsRow w.heap.size 3 1 v' (openR q.l (k + 1)).length (intV (openR q.l (k + 1)))) := Lib.hid (by
            rw [HE.out, List.length_append]
            unfold intV at hown7 ⊢
            rw [List.map_append]
            exact hown7)
          have HB7 := Lib.hid (HB1.out.grown hgr7 HB1.out.size (fun g e => (HO1.out.lt g e).1))
          clear hown7 hgr7 hnew HO1 HB1
          go_wp2_with fail
          go_roundw
          case rel => exact ⟨k + 1, by omega, by go_num, HO7.out, HB7.out⟩
          case measure => simp [intOf]; omega
      · have HE : Hid (openR q.l (k + 1) = openR q.l k) := Lib.hid (by rw [HS.out, isOpen_none h0]; simp)
        go_wp2_with fail
        go_roundw
        case rel => exact ⟨k + 1, by omega, by go_num, by rw [HE.out]; exact HO.out, HB.out⟩
        case measure => simp [intOf]; omega
    · obtain rfl : k = 40 := by omega
      go_wp2_with fail
      go_ret
      exact ⟨_, rfl, HO.out, HB.out⟩
end Go.Proofs.Ythijckdablkofaa
