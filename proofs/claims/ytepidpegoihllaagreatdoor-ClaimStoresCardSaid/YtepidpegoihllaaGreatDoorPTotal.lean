/- step.Total: the litres of each owner. -/
import Derived.Test.YtepidpegoihllaaGreatDoorPRight
import Derived.Test.YtepidpegoihllaaGreatDoorBSlopes
namespace Go.Proofs.YtepidpegoihllaaGreatDoor
open Go.RowKit
/-- sums with one part more -/
def addP (V p : List Int) : List Int := List.zipWith addS V p
/-- the first k sums have the part already -/
def mixP (V p : List Int) (k : Nat) : List Int := (addP V p).take k ++ V.drop k
theorem addP_len {V p : List Int} (h : p.length = V.length) : (addP V p).length = V.length := by unfold addP; rw [List.length_zipWith]; omega
theorem mixP_zero (V p : List Int) : mixP V p 0 = V := by simp [mixP]
theorem mixP_full {V p : List Int} (h : p.length = V.length) : mixP V p V.length = addP V p := by
  unfold mixP
  rw [List.drop_length, List.append_nil, ← addP_len h, List.take_length]
theorem mixP_at {V p : List Int} {k : Nat} (h : p.length = V.length) (hk : k < V.length) : (mixP V p k)[k]? = V[k]? := by
  have e : ((addP V p).take k).length = k := by rw [List.length_take, addP_len h]; omega
  unfold mixP
  rw [List.getElem?_append_right (by omega), e, List.getElem?_drop]
  simp
theorem mixP_set {V p : List Int} {k : Nat} {a x : Int} (h : p.length = V.length) (ha : V[k]? = some a) (hx : p[k]? = some x) : (mixP V p k).set k (addS a x) = mixP V p (k + 1) := by
  have hk := (List.getElem?_eq_some_iff.1 ha).1
  have e : ((addP V p).take k).length = k := by rw [List.length_take, addP_len h]; omega
  have ez : (addP V p)[k]? = some (addS a x) := by
    unfold addP
    rw [List.getElem?_zipWith, ha, hx]
  have ed : V.drop k = a :: V.drop (k + 1) := by
    rw [List.drop_eq_getElem_cons hk]
    congr 1
    exact (List.getElem?_eq_some_iff.1 ha).2
  unfold mixP
  rw [List.set_append_right _ _ (by omega), e, Nat.sub_self, ed, List.set_cons_zero, List.take_add_one, ez, Option.toList_some, List.append_assoc]
  rfl
theorem totalS_len (n : Nat) (ps : List (List Int)) : (totalS n ps).length = n := by unfold totalS; rw [List.length_map, List.length_range]
theorem totalS_nil (n : Nat) : totalS n [] = List.replicate n 0 := by
  apply List.ext_getElem?
  intro i
  unfold totalS
  rw [List.getElem?_map, List.getElem?_replicate]
  by_cases h : i < n
  · rw [List.getElem?_range h, if_pos h]; rfl
  · rw [List.getElem?_eq_none (by rw [List.length_range]; omega), if_neg h]; rfl
theorem totalS_snoc {n k : Nat} {ps : List (List Int)} {p : List Int} (h : ps[k]? = some p) (hp : p.length = n) : addP (totalS n (ps.take k)) p = totalS n (ps.take (k + 1)) := by
  apply List.ext_getElem?
  intro i
  unfold addP
  rw [List.getElem?_zipWith]
  unfold totalS
  rw [List.getElem?_map, List.getElem?_map]
  by_cases hi : i < n
  · have e : p[i]? = some (p.getD i 0) := by
      rw [List.getD_eq_getElem?_getD, List.getElem?_eq_getElem (by omega)]
      rfl
    rw [List.getElem?_range hi, e]
    show some (addS (ownerS (ps.take k) i) (p.getD i 0)) = some (ownerS (ps.take (k + 1)) i)
    unfold ownerS
    rw [List.take_add_one, h, Option.toList_some, List.foldl_append]
    rfl
  · rw [List.getElem?_eq_none (l := List.range n) (by rw [List.length_range]; omega)]
    rfl
theorem totalS_bd {n : Nat} {ps : List (List Int)} : ∀ x ∈ totalS n ps, I64 x := fun x hx => by
  unfold totalS at hx
  obtain ⟨i, -, rfl⟩ := List.mem_map.1 hx
  rcases List.eq_nil_or_concat ps with rfl | ⟨q, y, rfl⟩
  · exact ⟨by simp [ownerS], by simp [ownerS]⟩
  · unfold ownerS
    rw [List.concat_eq_append, List.foldl_append]
    exact addS_bd _ _
set_option maxRecDepth 100000 in
set_option maxHeartbeats 4000000 in
theorem addT_any (p V : List Int) (v : Value) (b0 g gs : Nat) (o0 : Obj) (w c : World) (hp : LArg RInt 1 v p w) (hl : p.length = V.length) (hn : V.length ≤ 1000) (hV : ∀ x ∈ V, I64 x) (hr : RowsS w [(g, .cells (i64v V) 3), (gs, .cells #[.slice (some ⟨g, 0, none⟩) V.length V.length] 29), (b0, o0)] c) :
    Calls Tryz.prog 38 #[v, .pointer (some ⟨gs, 0, none⟩)] c fun e w' => e = .returned (.tuple #[]) ∧ RowsS w [(g, .cells (i64v (addP V p)) 3), (gs, .cells #[.slice (some ⟨g, 0, none⟩) V.length V.length] 29), (b0, o0)] w' := by
  obtain ⟨ap, cp, rfl, -, -⟩ := hp.slice
  have HP := Lib.hid hp
  have HL := Lib.hid hl
  have HV := Lib.hid hV
  have HR := Lib.hid hr
  have hpn : (p.length : Int) = (V.length : Int) := by omega
  clear hp hl hV hr
  go_enter Tryz.func38, Tryz.ntmps38
  have z1 := HR.out.cell 1 0 rfl rfl
  have hmin : min (V.length : Int) (V.length : Int) = (V.length : Int) := by omega
  go_upto_region 1 with fail
  clear z1
  go_loopw [9] (fun iv wx => ∃ k : Nat, k ≤ V.length ∧ iv = .int .i64 k ∧ RowsS w [(g, .cells (i64v (mixP V p k)) 3), (gs, .cells #[.slice (some ⟨g, 0, none⟩) V.length V.length] 29), (b0, o0)] wx) (fun iv _ => V.length - (Go.RowKit.intOf iv).toNat)
  case atStart => exact ⟨0, Nat.zero_le _, rfl, by rw [mixP_zero]; exact HR.out⟩
  case round =>
    obtain ⟨k, hk, rfl, hr⟩ := hrel
    have HR1 := Lib.hid hr
    clear hr HR
    by_cases hlt : k < V.length
    · have hlti : (k : Int) < (V.length : Int) := by omega
      have hltp : (k : Int) < (p.length : Int) := by omega
      obtain ⟨a, ha⟩ : ∃ a, V[k]? = some a := ⟨_, List.getElem?_eq_getElem hlt⟩
      obtain ⟨x, hx⟩ : ∃ x, p[k]? = some x := ⟨_, List.getElem?_eq_getElem (by have := HL.out; omega)⟩
      obtain ⟨bx, ox, cs, hal, hbx, -, hrx, hcs⟩ := HP.out.at hx
      subst hal
      rw [hcs.1] at hrx
      have HX : Hid (I64 x) := Lib.hid hcs.2
      have HA : Hid (I64 a) := Lib.hid (HV.out a (List.mem_of_getElem? ha))
      have HRX : Hid (w.rangeAt bx (ox + k) [.int .i64 x]) := Lib.hid (by rw [Nat.mul_one] at hrx; exact hrx)
      have HMA : Hid ((i64v (mixP V p k))[k]? = some (.int .i64 a)) := Lib.hid (i64v_get (by rw [mixP_at HL.out hlt, ha]))
      have HMS : Hid ((i64v (mixP V p k)).setIfInBounds k (.int .i64 (addS a x)) = i64v (mixP V p (k + 1))) := Lib.hid (by rw [i64v_set, mixP_set HL.out ha hx])
      clear ha hx hrx hcs
      go_upto_region 3 with fail
      obtain ⟨hRs, hZ, hG, hN⟩ := HR1.out.split
      obtain ⟨y, hy⟩ : ∃ y, y = addS a x := ⟨_, rfl⟩
      have HY := Lib.hid hy
      clear hy
      refine wp_region_noPanic ?_
      refine wp_region_held_drew (S := fun cw => RowsS w [(gs, .cells #[.slice (some ⟨g, 0, none⟩) V.length V.length] 29), (b0, o0)] cw) (by kernel_rfl) (hRs.drew) (fun hHeld => ?_)
      refine tn 0 ?_ (hx := fun wz hSw => by have e4 := hSw.cell 0 0 rfl rfl; go_simp; try with_reducible rfl)
      try simp only [Act.put, aL1, aL2, aL3]
      refine tn 1 ?_
      try simp only [Act.put, aL1, aL2, aL3]
      refine tn 2 ?_ (hx := fun wz hSw => by have e4 := hSw.cell 0 0 rfl rfl; go_simp; try with_reducible rfl)
      try simp only [Act.put, aL1, aL2, aL3]
      refine tn 3 ?_
      try simp only [Act.put, aL1, aL2, aL3]
      refine tn 4 ?_
      try simp only [Act.put, aL1, aL2, aL3]
      refine tn 6 ?_
      try simp only [Act.put, aL1, aL2, aL3]
      refine tn 7 ?_
      try simp only [Act.put, aL1, aL2, aL3]
      refine tn 8 ?_
      try simp only [Act.put, aL1, aL2, aL3]
      refine tn 9 ?_ (hx := fun wz hSw => by have e4 := (rangeAt_below HRX.out hSw.below hbx) 0 (.int .i64 x) rfl; rw [Nat.add_zero] at e4; go_simp; try with_reducible rfl)
      try simp only [Act.put, aL1, aL2, aL3]
      refine rd1 5 (fun K hK => ?_)
      have e5 : wr.drew.cell? ⟨g, k, none⟩ = some (.int .i64 a) := (cell_of_row _ _ _ _ _ _ (show wr.drew.heap[g]? = _ from hZ)).trans HMA.out
      go_simp
      refine hK.out _ _ hHeld (fun hHeld => ?_)
      clear hK K
      try simp only [Act.put, aL1, aL2, aL3]
      refine rd1 10 (fun K hK => ?_)
      go_simp
      refine (add_any a x _ HA.out HX.out).mono ?_
      rintro e w' ⟨rfl, rfl⟩
      rw [← HY.out]
      refine hK.out _ _ hHeld (fun hHeld => ?_)
      clear hK K
      try simp only [Act.put, aL1, aL2, aL3]
      refine rd1 11 (fun K hK => ?_)
      go_simp
      refine hK.out _ _ hHeld (fun hHeld => ?_)
      clear hK K
      try simp only [Act.put, aL1, aL2, aL3]
      refine rd1 12 (fun K hK => ?_)
      have f5 : wr.drew.frozen? ⟨g, k, none⟩ = false := frozen_of_row _ _ _ _ _ (show wr.drew.heap[g]? = _ from hZ)
      have HW5 : Hid (wr.drew.setCell ⟨g, k, none⟩ (.int .i64 y) = wr.drew.setRow g (i64v (mixP V p (k + 1)))) := Lib.hid (by rw [setCell_eq_setRow _ g k _ _ _ _ (show wr.drew.heap[g]? = _ from hZ), HY.out, HMS.out])
      go_simp
      have hHeld2 := hHeld.setOther hG hN (i64v (mixP V p (k + 1)))
      rw [← HW5.out] at hHeld2
      have hZ2 : (wr.drew.setCell ⟨g, k, none⟩ (.int .i64 y)).heap[g]? = some (.cells (i64v (mixP V p (k + 1))) 3) := by rw [HW5.out]; exact setRow_heap _ _ _ _ _ _ (show wr.drew.heap[g]? = _ from hZ)
      refine hK.out _ _ hHeld2 (fun hHeld => ?_)
      clear hK K hHeld2
      try simp only [Act.put]
      refine rdone (NoPanic.normal ?_)
      have HR4 := Lib.hid (hHeld.cons hZ2 hG hN)
      go_wp2_with fail
      go_roundw
      case rel => exact ⟨k + 1, by omega, by go_num, HR4.out⟩
      case measure => simp [Go.RowKit.intOf]; omega
    · obtain rfl : k = V.length := by omega
      have HRZ : Hid (RowsS w [(g, .cells (i64v (addP V p)) 3), (gs, .cells #[.slice (some ⟨g, 0, none⟩) V.length V.length] 29), (b0, o0)] wr) := Lib.hid (by have := HR1.out; rw [mixP_full HL.out] at this; exact this)
      go_wp2_with fail
      go_end0
      exact ⟨rfl, HRZ.out⟩
set_option maxRecDepth 100000 in
set_option maxHeartbeats 8000000 in
theorem stepTotal_any (s : StateV) (po pr pq pg pi pu : Option Addr) (qo qr qq qg qi qu : Nat) (w : World) (hT : StateS s po pq qo qq w) (hin : s.inn.length ≤ 1000) (hp : ∀ p ∈ s.own, p.length = s.inn.length) (hq : ∀ l ∈ s.queue, l.part.length = s.inn.length) :
    Calls Tryz.prog 9 #[.agg #[.int .i64 s.hour, .slice po s.own.length qo, .slice pr s.rem.length qr, .slice pq s.queue.length qq, .slice pg s.gates.length qg, .slice pi s.inn.length qi, .slice pu s.out.length qu]] w fun e w' => ∃ g, e = .returned (.slice (some ⟨g, 0, none⟩) s.inn.length s.inn.length) ∧ RowsS w [(g, .cells (i64v (totalS s.inn.length (s.own ++ s.queue.map (fun l : LoadV => l.part)))) 3)] w' := by
  obtain ⟨aqo, nqo, hqo, hol0, hom⟩ := hT.lo.slice
  obtain ⟨aqq, nqq, hqq, hql0, hqm⟩ := hT.lq.slice
  have hol : s.own.length ≤ 9223372036854775807 := by unfold maxLen at hom; omega
  have hql : s.queue.length ≤ 9223372036854775807 := by unfold maxLen at hqm; omega
  have HT := Lib.hid hT
  have HP := Lib.hid hp
  have HQ := Lib.hid hq
  have hmk : ∀ w, (Instr.makeSlice 29 (.int .i64 (s.inn.length : Int)) (.int .i64 (s.inn.length : Int))).run Tryz.prog w = .ok (.slice (some ⟨w.heap.size, 0, none⟩) s.inn.length s.inn.length) (w.alloc (.cells (i64v (List.replicate s.inn.length 0)) 3)) := fun w => make_ints s.inn.length w hin
  have s1 : (w.alloc (.cells #[.int .i64 s.hour, .slice po s.own.length qo, .slice pr s.rem.length qr, .slice pq s.queue.length qq, .slice pg s.gates.length qg, .slice pi s.inn.length qi, .slice pu s.out.length qu] 36)).heap.size = w.heap.size + 1 := by simp
  have s2 : ((w.alloc (.cells #[.int .i64 s.hour, .slice po s.own.length qo, .slice pr s.rem.length qr, .slice pq s.queue.length qq, .slice pg s.gates.length qg, .slice pi s.inn.length qi, .slice pu s.out.length qu] 36)).alloc (.cells (i64v (List.replicate s.inn.length 0)) 3)).heap.size = w.heap.size + 1 + 1 := by simp
  have HR0 := Lib.hid ((RowsS.nil w).alloc (.cells #[.int .i64 s.hour, .slice po s.own.length qo, .slice pr s.rem.length qr, .slice pq s.queue.length qq, .slice pg s.gates.length qg, .slice pi s.inn.length qi, .slice pu s.out.length qu] 36))
  have HR : Hid (∃ g gs, g = w.heap.size + 1 ∧ gs = w.heap.size + 1 + 1 ∧ RowsS w [(g, .cells (i64v (totalS s.inn.length ((s.own ++ s.queue.map (fun l : LoadV => l.part)).take (0)))) 3), (gs, .cells #[.slice (some ⟨g, 0, none⟩) s.inn.length s.inn.length] 29), (w.heap.size, .cells #[.int .i64 s.hour, .slice po s.own.length qo, .slice pr s.rem.length qr, .slice pq s.queue.length qq, .slice pg s.gates.length qg, .slice pi s.inn.length qi, .slice pu s.out.length qu] 36)] (((w.alloc (.cells #[.int .i64 s.hour, .slice po s.own.length qo, .slice pr s.rem.length qr, .slice pq s.queue.length qq, .slice pg s.gates.length qg, .slice pi s.inn.length qi, .slice pu s.out.length qu] 36)).alloc (.cells (i64v (List.replicate s.inn.length 0)) 3)).alloc (.cells #[.slice (some ⟨g, 0, none⟩) s.inn.length s.inn.length] 29))) := Lib.hid (by
    have := (((RowsS.nil w).alloc (.cells #[.int .i64 s.hour, .slice po s.own.length qo, .slice pr s.rem.length qr, .slice pq s.queue.length qq, .slice pg s.gates.length qg, .slice pi s.inn.length qi, .slice pu s.out.length qu] 36)).alloc (.cells (i64v (List.replicate s.inn.length 0)) 3)).alloc (.cells #[.slice (some ⟨w.heap.size + 1, 0, none⟩) s.inn.length s.inn.length] 29)
    rw [s1, s2] at this
    refine ⟨_, _, rfl, rfl, ?_⟩
    rw [List.take_zero, totalS_nil]
    obtain ⟨h1, h2, h3, h4⟩ := RowsS.split this
    refine ⟨fun i p hi => ?_, this.below, fun p hi => ?_, ?_⟩
    · match i, hi with
      | 0, hi => cases hi; exact this.rows 1 _ rfl
      | 1, hi => cases hi; exact this.rows 2 _ rfl
      | 2, hi => cases hi; exact this.rows 0 _ rfl
    · simp at hi
      rcases hi with rfl | rfl | rfl <;> simp <;> omega
    · simp; omega)
  clear hqo hqq hT hom hqm hp hq hol0 hql0
  go_enter Tryz.func9, Tryz.ntmps9
  have z5 := HR0.out.cell 0 5 rfl rfl
  go_upto_region 3 with fail
  obtain ⟨g, gs, hg1, hg2, hr⟩ := HR.out
  have HRA := Lib.hid hr
  rw [← hg2, ← hg1]
  clear hr hg1 hg2 z5 hmk s1 s2 HR0 HR
  generalize (((w.alloc (.cells #[.int .i64 s.hour, .slice po s.own.length qo, .slice pr s.rem.length qr, .slice pq s.queue.length qq, .slice pg s.gates.length qg, .slice pi s.inn.length qi, .slice pu s.out.length qu] 36)).alloc (.cells (i64v (List.replicate s.inn.length 0)) 3)).alloc (.cells #[.slice (some ⟨g, 0, none⟩) s.inn.length s.inn.length] 29)) = w1 at *
  have z1 := HRA.out.cell 2 1 rfl rfl
  go_upto_region 4 with fail
  clear z1
  go_loopw [17] (fun iv wx => ∃ k : Nat, k ≤ s.own.length ∧ iv = .int .i64 k ∧ RowsS w [(g, .cells (i64v (totalS s.inn.length ((s.own ++ s.queue.map (fun l : LoadV => l.part)).take (k)))) 3), (gs, .cells #[.slice (some ⟨g, 0, none⟩) s.inn.length s.inn.length] 29), (w.heap.size, .cells #[.int .i64 s.hour, .slice po s.own.length qo, .slice pr s.rem.length qr, .slice pq s.queue.length qq, .slice pg s.gates.length qg, .slice pi s.inn.length qi, .slice pu s.out.length qu] 36)] wx) (fun iv _ => s.own.length - (Go.RowKit.intOf iv).toNat)
  case atStart => exact ⟨0, Nat.zero_le _, rfl, HRA.out⟩
  case round =>
    clear HRA
    obtain ⟨k, hk, rfl, hr⟩ := hrel
    have HRA := Lib.hid hr
    clear hr
    by_cases hlt : k < s.own.length
    · have hlti : (k : Int) < (s.own.length : Int) := by omega
      obtain ⟨p, hpk⟩ : ∃ p, s.own[k]? = some p := ⟨_, List.getElem?_eq_getElem hlt⟩
      obtain ⟨bo, oo, cs, hal, hbo', -, hro, vp, rfl, hpart⟩ := HT.out.lo.at hpk
      subst hal
      obtain ⟨ap, cp, rfl, -, -⟩ := hpart.slice
      have HPt := Lib.hid hpart
      have hpl := HP.out p (List.mem_of_getElem? hpk)
      have HPL := Lib.hid hpl
      have hsn : addP (totalS s.inn.length ((s.own ++ s.queue.map (fun l : LoadV => l.part)).take k)) p = totalS s.inn.length ((s.own ++ s.queue.map (fun l : LoadV => l.part)).take (k + 1)) := totalS_snoc (by rw [List.getElem?_append_left hlt]; exact hpk) hpl
      have HSN := Lib.hid hsn
      have cW : wr.cell? ⟨bo, oo + k, none⟩ = some (.slice ap p.length cp) := by
        have := (rangeAt_below hro HRA.out.below hbo') 0 _ rfl
        rw [Nat.mul_one, Nat.add_zero] at this
        exact this
      clear hpart hro hpk hpl hsn
      go_wp2_with fail
      have HV0 := addT_any p (totalS s.inn.length ((s.own ++ s.queue.map (fun l : LoadV => l.part)).take k)) (.slice ap p.length cp) w.heap.size g gs _ w wr HPt.out (by rw [totalS_len]; exact HPL.out) (by rw [totalS_len]; exact hin) totalS_bd (by rw [totalS_len]; exact HRA.out)
      rw [totalS_len, HSN.out] at HV0
      refine HV0.mono ?_
      rintro e w3 ⟨rfl, hr3⟩
      clear HV0
      go_wp2_with fail
      go_roundw
      case rel => exact ⟨k + 1, by omega, by go_num, hr3⟩
      case measure => simp [Go.RowKit.intOf]; omega
    · obtain rfl : k = s.own.length := by omega
      have z3 := HRA.out.cell 2 3 rfl rfl
      clear hlt hk
      go_upto_region 9 with fail
      clear z3
      rename World => wz
      go_loopw [28] (fun iv wx => ∃ k : Nat, k ≤ s.queue.length ∧ iv = .int .i64 k ∧ RowsS w [(g, .cells (i64v (totalS s.inn.length ((s.own ++ s.queue.map (fun l : LoadV => l.part)).take (s.own.length + k)))) 3), (gs, .cells #[.slice (some ⟨g, 0, none⟩) s.inn.length s.inn.length] 29), (w.heap.size, .cells #[.int .i64 s.hour, .slice po s.own.length qo, .slice pr s.rem.length qr, .slice pq s.queue.length qq, .slice pg s.gates.length qg, .slice pi s.inn.length qi, .slice pu s.out.length qu] 36)] wx) (fun iv _ => s.queue.length - (Go.RowKit.intOf iv).toNat)
      case atStart => exact ⟨0, Nat.zero_le _, rfl, HRA.out⟩
      case round =>
        clear HRA
        obtain ⟨k, hk, rfl, hr⟩ := hrel
        have HRA := Lib.hid hr
        clear hr
        by_cases hlt : k < s.queue.length
        · have hlti : (k : Int) < (s.queue.length : Int) := by omega
          obtain ⟨l, hl⟩ : ∃ l, s.queue[k]? = some l := ⟨_, List.getElem?_eq_getElem hlt⟩
          obtain ⟨bq, oq, cs, hal, hbl, -, hrg, v0, rfl, -, -, hpart⟩ := HT.out.lq.at hl
          subst hal
          obtain ⟨ap, cp, rfl, -, -⟩ := hpart.slice
          have HPt := Lib.hid hpart
          have hpl := HQ.out l (List.mem_of_getElem? hl)
          have HPL := Lib.hid hpl
          have hsn : addP (totalS s.inn.length ((s.own ++ s.queue.map (fun l : LoadV => l.part)).take (s.own.length + k))) l.part = totalS s.inn.length ((s.own ++ s.queue.map (fun l : LoadV => l.part)).take (s.own.length + (k + 1))) := totalS_snoc (by rw [List.getElem?_append_right (by omega), Nat.add_sub_cancel_left, List.getElem?_map, hl]; rfl) hpl
          have HSN := Lib.hid hsn
          have HG1 : Hid (wr.rangeAt bq (oq + k * 3) [.int .i64 l.at_, .int .i64 l.to_, .slice ap l.part.length cp]) := Lib.hid (rangeAt_below hrg HRA.out.below hbl)
          have HR2 := Lib.hid (HRA.out.alloc (.cells #[.int .i64 l.at_, .int .i64 l.to_, .slice ap l.part.length cp] 83))
          clear hpart hrg hl hpl hsn
          go_upto_region 11 with (refine wpList_load_range (by first | (go_simp; done) | rfl) 83 _ rfl _ _ rfl _ _ HG1.out undLd rfl infoLd ?_)
          clear HG1
          generalize wr.alloc (.cells #[.int .i64 l.at_, .int .i64 l.to_, .slice ap l.part.length cp] 83) = w2 at *
          generalize wr.heap.size = bL at *
          have l2 := HR2.out.cell 3 2 rfl rfl
          go_wp2_with fail
          have HV0 := addT_any l.part (totalS s.inn.length ((s.own ++ s.queue.map (fun l : LoadV => l.part)).take (s.own.length + k))) (.slice ap l.part.length cp) w.heap.size g gs _ w w2 HPt.out (by rw [totalS_len]; exact HPL.out) (by rw [totalS_len]; exact hin) totalS_bd (by rw [totalS_len]; exact HR2.out.take 3)
          rw [totalS_len, HSN.out] at HV0
          refine HV0.mono ?_
          rintro e w3 ⟨rfl, hr3⟩
          clear HV0
          go_wp2_with fail
          go_roundw
          case rel => exact ⟨k + 1, by omega, by go_num, hr3⟩
          case measure => simp [Go.RowKit.intOf]; omega
        · obtain rfl : k = s.queue.length := by omega
          have e1 : (s.own ++ s.queue.map (fun l : LoadV => l.part)).take (s.own.length + s.queue.length) = (s.own ++ s.queue.map (fun l : LoadV => l.part)) := by
            have e0 : s.own.length + s.queue.length = (s.own ++ s.queue.map (fun l : LoadV => l.part)).length := by rw [List.length_append, List.length_map]
            rw [e0, List.take_length]
          have HRZ : Hid (RowsS w [(g, .cells (i64v (totalS s.inn.length (s.own ++ s.queue.map (fun l : LoadV => l.part)))) 3)] wr) := Lib.hid (by have := HRA.out.take 1; rw [e1] at this; exact this)
          have z0 := HRA.out.cell 1 0 rfl rfl
          go_wp2_with fail
          go_ret
          exact ⟨g, rfl, HRZ.out⟩
end Go.Proofs.YtepidpegoihllaaGreatDoor

