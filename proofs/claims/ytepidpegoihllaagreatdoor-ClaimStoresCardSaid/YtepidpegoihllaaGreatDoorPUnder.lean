/- The water under way to an office's places: reach.Under, bourneref18.Under. -/
import Derived.Test.YtepidpegoihllaaGreatDoorPLaw
import Derived.Test.YtepidpegoihllaaGreatDoorPRows
import Derived.Test.YtepidpegoihllaaGreatDoorSShelf
namespace Go.Proofs.YtepidpegoihllaaGreatDoor
open Go.RowKit
theorem undLd : Tryz.prog.underlying 83 = some (.struct (Tryz.prog.fieldsOf 83)) := by kernel_rfl
theorem infoLd : (Tryz.prog.info? 83).map (·.size) = some 3 := by kernel_rfl
/-- the offices of the places -/
def offs (b : BasinV) : List Int := b.places.map (·.office)
theorem queW_at {O : List Int} {q : List LoadV} {k : Nat} {l : LoadV} (h : q[k]? = some l) : (queW O q)[k]? = some (totS l.part, if 0 ≤ l.to_ then (O[l.to_.toNat]?).getD (-1) else -1) := by
  unfold queW
  rw [List.getElem?_map, h]
  rfl
theorem queW_len (O : List Int) (q : List LoadV) : (queW O q).length = q.length := by unfold queW; rw [List.length_map]
theorem offs_at {b : BasinV} {j : Nat} {x : PlaceV} (h : b.places[j]? = some x) : (offs b)[j]? = some x.office := by
  unfold offs
  rw [List.getElem?_map, h]
  rfl
set_option maxRecDepth 100000 in
set_option maxHeartbeats 4000000 in
theorem underK_any (b : BasinV) (p0 p1 p2 p3 p4 p5 p6 p7 : Option Addr) (q0 q1 q2 q3 q4 q5 q6 q7 : Nat) (q : List LoadV) (vq : Value) (o : Int) (w : World) (hS : LArg RPlace 12 (.slice p1 b.places.length q1) b.places w) (hq : LArg RLoad 3 vq q w) (ho : 0 ≤ o) (_hpl : b.places.length ≤ 1000) :
    Calls Tryz.prog 34 #[vq, .agg #[.string b.name, .slice p0 b.owners.length q0, .int .i64 b.cells, .slice p1 b.places.length q1, .slice p2 b.links.length q2, .slice p3 b.towns.length q3, .slice p4 b.gauges.length q4, .slice p5 b.roads.length q5, .slice p6 b.shelters.length q6, .slice p7 b.room.length q7, .int .i64 b.err], .int .i64 o] w fun e w' => e = .returned (.int .i64 (foldS (queW (offs b) q) o)) ∧ Below w.heap.size w w' := by
  obtain ⟨aq, nq, rfl, hqc, hqm⟩ := hq.slice
  have hql : q.length ≤ 9223372036854775807 := by unfold maxLen at hqm; omega
  have HQ := Lib.hid hq
  have HS := Lib.hid hS
  have HOo := Lib.hid ho
  have HR := Lib.hid ((RowsS.nil w).alloc (.cells #[.string b.name, .slice p0 b.owners.length q0, .int .i64 b.cells, .slice p1 b.places.length q1, .slice p2 b.links.length q2, .slice p3 b.towns.length q3, .slice p4 b.gauges.length q4, .slice p5 b.roads.length q5, .slice p6 b.shelters.length q6, .slice p7 b.room.length q7, .int .i64 b.err] 31))
  clear hq hS hqm ho
  go_enter Tryz.func34, Tryz.ntmps34
  go_upto_region 1 with fail
  generalize (w.alloc (.cells #[.string b.name, .slice p0 b.owners.length q0, .int .i64 b.cells, .slice p1 b.places.length q1, .slice p2 b.links.length q2, .slice p3 b.towns.length q3, .slice p4 b.gauges.length q4, .slice p5 b.roads.length q5, .slice p6 b.shelters.length q6, .slice p7 b.room.length q7, .int .i64 b.err] 31)) = w0 at *
  go_wp2_with fail
  go_loopw [7, 12] (fun sv iv wx => ∃ k : Nat, k ≤ q.length ∧ iv = .int .i64 k ∧ sv = .int .i64 (foldS ((queW (offs b) q).take k) o) ∧ RowsS w [(w.heap.size, .cells #[.string b.name, .slice p0 b.owners.length q0, .int .i64 b.cells, .slice p1 b.places.length q1, .slice p2 b.links.length q2, .slice p3 b.towns.length q3, .slice p4 b.gauges.length q4, .slice p5 b.roads.length q5, .slice p6 b.shelters.length q6, .slice p7 b.room.length q7, .int .i64 b.err] 31)] wx) (fun _ iv _ => q.length - (Go.RowKit.intOf iv).toNat)
  case atStart => exact ⟨0, Nat.zero_le _, rfl, rfl, HR.out⟩
  case round =>
    obtain ⟨k, hk, rfl, rfl, hr⟩ := hrel
    have HR1 := Lib.hid hr
    clear hr HR
    obtain ⟨s, hs⟩ : ∃ s, s = foldS ((queW (offs b) q).take k) o := ⟨_, rfl⟩
    have HSv := Lib.hid hs.symm
    have HSb : Hid (I64 s) := Lib.hid (by rw [hs]; exact foldS_bd _ _)
    rw [← hs]
    clear hs
    by_cases hlt : k < q.length
    · obtain ⟨l, hl⟩ : ∃ l, q[k]? = some l := ⟨_, List.getElem?_eq_getElem hlt⟩
      obtain ⟨bq, oq, cs, rfl, hbl, -, hrg, v0, rfl, -, -, hpart⟩ := HQ.out.at hl
      obtain ⟨ap, cp, rfl, -, -⟩ := hpart.slice
      have HPt := Lib.hid hpart
      have HW := Lib.hid (queW_at (O := offs b) hl)
      have hkq : (k : Int) < (q.length : Int) := by omega
      have HG1 : Hid (wr.rangeAt bq (oq + k * 3) [.int .i64 l.at_, .int .i64 l.to_, .slice ap l.part.length cp]) := Lib.hid (rangeAt_below hrg HR1.out.below hbl)
      clear hpart hrg hl
      have HR2 := Lib.hid (HR1.out.alloc (.cells #[.int .i64 l.at_, .int .i64 l.to_, .slice ap l.part.length cp] 83))
      go_upto_region 5 with (refine wpList_load_range (by first | (go_simp; done) | rfl) 83 _ rfl _ _ rfl _ _ HG1.out undLd rfl infoLd ?_)
      generalize wr.alloc (.cells #[.int .i64 l.at_, .int .i64 l.to_, .slice ap l.part.length cp] 83) = w2 at *
      generalize wr.heap.size = bL at *
      have HRX : Hid (RowsS w [(w.heap.size, .cells #[.string b.name, .slice p0 b.owners.length q0, .int .i64 b.cells, .slice p1 b.places.length q1, .slice p2 b.links.length q2, .slice p3 b.towns.length q3, .slice p4 b.gauges.length q4, .slice p5 b.roads.length q5, .slice p6 b.shelters.length q6, .slice p7 b.room.length q7, .int .i64 b.err] 31)] w2) := Lib.hid (HR2.out.take 1)
      have t1 := HR2.out.cell 1 1 rfl rfl
      have t2 := HR2.out.cell 1 2 rfl rfl
      have b3 := HR2.out.cell 0 3 rfl rfl
      have hqc' : k < q.length := hlt
      by_cases h1 : 0 ≤ l.to_
      · obtain ⟨j, hj⟩ : ∃ j : Nat, l.to_ = (j : Int) := ⟨l.to_.toNat, by omega⟩
        have HJ : Hid (0 ≤ l.to_ ∧ l.to_.toNat = j) := Lib.hid ⟨h1, by rw [hj]; rfl⟩
        rw [hj] at t1
        have q1 : decide (0 ≤ (j : Int)) = true := decide_eq_true (by omega)
        clear h1 hj
        by_cases h2 : j < b.places.length
        · have h2i : (j : Int) < (b.places.length : Int) := by omega
          obtain ⟨x, hx⟩ : ∃ x, b.places[j]? = some x := ⟨_, List.getElem?_eq_getElem h2⟩
          obtain ⟨bp, op, cs, rfl, hbp, -, hrp, u0, u1, u2, rfl, -⟩ := HS.out.at hx
          have cO : w2.cell? ⟨bp, op + j * 12 + 2, none⟩ = some (.int .i64 x.office) := (rangeAt_below hrp HR2.out.below hbp) 2 _ rfl
          have HM : Hid ((if 0 ≤ l.to_ then ((offs b)[l.to_.toNat]?).getD (-1) else -1) = x.office) := Lib.hid (by rw [if_pos HJ.out.1, HJ.out.2, offs_at hx]; rfl)
          clear hrp hx
          by_cases h3 : x.office = o
          · have q3 : (x.office == o) = true := by rw [beq_iff_eq]; exact h3
            have HN : Hid (foldS ((queW (offs b) q).take (k + 1)) o = addS s (totS l.part)) := Lib.hid (by rw [foldS_snoc HW.out, HSv.out]; show (if (if 0 ≤ l.to_ then ((offs b)[l.to_.toNat]?).getD (-1) else -1) = o then _ else _) = _; rw [HM.out, if_pos h3])
            obtain ⟨t, ht⟩ : ∃ t, t = totS l.part := ⟨_, rfl⟩
            have HTt := Lib.hid ht
            have HTb : Hid (I64 t) := Lib.hid (by rw [ht]; exact totS_bd _)
            rw [← ht] at HN
            clear h3 ht
            go_wp2_with fail
            refine (total_any l.part _ _ (HPt.out.below stays_int HR2.out.below)).mono ?_
            rintro e w3 ⟨rfl, rfl⟩
            rw [← HTt.out]
            go_wp2_with fail
            refine (add_any s t _ HSb.out HTb.out).mono ?_
            rintro e w4 ⟨rfl, rfl⟩
            go_wp2_with fail
            go_roundw
            case rel => exact ⟨k + 1, by omega, by go_num, by rw [HN.out], HRX.out⟩
            case measure => simp [Go.RowKit.intOf]; omega
          · have q3 : (x.office == o) = false := by rw [beq_eq_false_iff_ne]; exact h3
            have HN : Hid (foldS ((queW (offs b) q).take (k + 1)) o = s) := Lib.hid (by rw [foldS_snoc HW.out, HSv.out]; show (if (if 0 ≤ l.to_ then ((offs b)[l.to_.toNat]?).getD (-1) else -1) = o then _ else _) = _; rw [HM.out, if_neg h3])
            go_wp2_with fail
            go_roundw
            case rel => exact ⟨k + 1, by omega, by go_num, by rw [HN.out], HRX.out⟩
            case measure => simp [Go.RowKit.intOf]; omega
        · have h2i : ¬ (j : Int) < (b.places.length : Int) := by omega
          have HN : Hid (foldS ((queW (offs b) q).take (k + 1)) o = s) := Lib.hid (by rw [foldS_snoc HW.out, HSv.out]; show (if (if 0 ≤ l.to_ then ((offs b)[l.to_.toNat]?).getD (-1) else -1) = o then _ else _) = _; rw [if_pos HJ.out.1, HJ.out.2, List.getElem?_eq_none (by unfold offs; rw [List.length_map]; omega), if_neg (by have := HOo.out; simp; omega)])
          go_wp2_with fail
          go_roundw
          case rel => exact ⟨k + 1, by omega, by go_num, by rw [HN.out], HRX.out⟩
          case measure => simp [Go.RowKit.intOf]; omega
      · have q1 : decide (0 ≤ l.to_) = false := decide_eq_false h1
        have HN : Hid (foldS ((queW (offs b) q).take (k + 1)) o = s) := Lib.hid (by rw [foldS_snoc HW.out, HSv.out]; show (if (if 0 ≤ l.to_ then ((offs b)[l.to_.toNat]?).getD (-1) else -1) = o then _ else _) = _; rw [if_neg h1, if_neg (by have := HOo.out; omega)])
        go_wp2_with fail
        go_roundw
        case rel => exact ⟨k + 1, by omega, by go_num, by rw [HN.out], HRX.out⟩
        case measure => simp [Go.RowKit.intOf]; omega
    · obtain rfl : k = q.length := by omega
      have HE : Hid (s = foldS (queW (offs b) q) o) := Lib.hid (by rw [← HSv.out, ← queW_len (offs b) q, List.take_length])
      clear hlt hk
      go_wp2_with fail
      rw [← HE.out]
      go_ret
      exact ⟨rfl, HR1.out.below⟩
set_option maxRecDepth 100000 in
set_option maxHeartbeats 4000000 in
theorem runderK_any (b : BasinV) (p0 p1 p2 p3 p4 p5 p6 p7 : Option Addr) (q0 q1 q2 q3 q4 q5 q6 q7 : Nat) (q : List LoadV) (vq : Value) (o : Int) (w : World) (hS : LArg RPlace 12 (.slice p1 b.places.length q1) b.places w) (hq : LArg RLoad 3 vq q w) (ho : 0 ≤ o) (_hpl : b.places.length ≤ 1000) :
    Calls Tryz.prog 37 #[vq, .agg #[.string b.name, .slice p0 b.owners.length q0, .int .i64 b.cells, .slice p1 b.places.length q1, .slice p2 b.links.length q2, .slice p3 b.towns.length q3, .slice p4 b.gauges.length q4, .slice p5 b.roads.length q5, .slice p6 b.shelters.length q6, .slice p7 b.room.length q7, .int .i64 b.err], .int .i64 o] w fun e w' => e = .returned (.int .i64 (foldS (queW (offs b) q) o)) ∧ Below w.heap.size w w' := by
  obtain ⟨aq, nq, rfl, hqc, hqm⟩ := hq.slice
  have hql : q.length ≤ 9223372036854775807 := by unfold maxLen at hqm; omega
  have HQ := Lib.hid hq
  have HS := Lib.hid hS
  have HOo := Lib.hid ho
  have HR := Lib.hid ((RowsS.nil w).alloc (.cells #[.string b.name, .slice p0 b.owners.length q0, .int .i64 b.cells, .slice p1 b.places.length q1, .slice p2 b.links.length q2, .slice p3 b.towns.length q3, .slice p4 b.gauges.length q4, .slice p5 b.roads.length q5, .slice p6 b.shelters.length q6, .slice p7 b.room.length q7, .int .i64 b.err] 31))
  clear hq hS hqm ho
  go_enter Tryz.func37, Tryz.ntmps37
  go_upto_region 1 with fail
  generalize (w.alloc (.cells #[.string b.name, .slice p0 b.owners.length q0, .int .i64 b.cells, .slice p1 b.places.length q1, .slice p2 b.links.length q2, .slice p3 b.towns.length q3, .slice p4 b.gauges.length q4, .slice p5 b.roads.length q5, .slice p6 b.shelters.length q6, .slice p7 b.room.length q7, .int .i64 b.err] 31)) = w0 at *
  go_wp2_with fail
  go_loopw [7, 8] (fun sv iv wx => ∃ k : Nat, k ≤ q.length ∧ iv = .int .i64 k ∧ sv = .int .i64 (foldS ((queW (offs b) q).take k) o) ∧ RowsS w [(w.heap.size, .cells #[.string b.name, .slice p0 b.owners.length q0, .int .i64 b.cells, .slice p1 b.places.length q1, .slice p2 b.links.length q2, .slice p3 b.towns.length q3, .slice p4 b.gauges.length q4, .slice p5 b.roads.length q5, .slice p6 b.shelters.length q6, .slice p7 b.room.length q7, .int .i64 b.err] 31)] wx) (fun _ iv _ => q.length - (Go.RowKit.intOf iv).toNat)
  case atStart => exact ⟨0, Nat.zero_le _, rfl, rfl, HR.out⟩
  case round =>
    obtain ⟨k, hk, rfl, rfl, hr⟩ := hrel
    have HR1 := Lib.hid hr
    clear hr HR
    obtain ⟨s, hs⟩ : ∃ s, s = foldS ((queW (offs b) q).take k) o := ⟨_, rfl⟩
    have HSv := Lib.hid hs.symm
    have HSb : Hid (I64 s) := Lib.hid (by rw [hs]; exact foldS_bd _ _)
    rw [← hs]
    clear hs
    by_cases hlt : k < q.length
    · obtain ⟨l, hl⟩ : ∃ l, q[k]? = some l := ⟨_, List.getElem?_eq_getElem hlt⟩
      obtain ⟨bq, oq, cs, rfl, hbl, -, hrg, v0, rfl, -, -, hpart⟩ := HQ.out.at hl
      obtain ⟨ap, cp, rfl, -, -⟩ := hpart.slice
      have HPt := Lib.hid hpart
      have HW := Lib.hid (queW_at (O := offs b) hl)
      have hkq : (k : Int) < (q.length : Int) := by omega
      have HG1 : Hid (wr.rangeAt bq (oq + k * 3) [.int .i64 l.at_, .int .i64 l.to_, .slice ap l.part.length cp]) := Lib.hid (rangeAt_below hrg HR1.out.below hbl)
      clear hpart hrg hl

      have HRX : Hid (RowsS w [(w.heap.size, .cells #[.string b.name, .slice p0 b.owners.length q0, .int .i64 b.cells, .slice p1 b.places.length q1, .slice p2 b.links.length q2, .slice p3 b.towns.length q3, .slice p4 b.gauges.length q4, .slice p5 b.roads.length q5, .slice p6 b.shelters.length q6, .slice p7 b.room.length q7, .int .i64 b.err] 31)] wr) := Lib.hid (HR1.out)
      have t1 := HG1.out 1 _ rfl
      have t2 := HG1.out 2 _ rfl
      have b3 := HR1.out.cell 0 3 rfl rfl
      have hqc' : k < q.length := hlt
      by_cases h1 : 0 ≤ l.to_
      · obtain ⟨j, hj⟩ : ∃ j : Nat, l.to_ = (j : Int) := ⟨l.to_.toNat, by omega⟩
        have HJ : Hid (0 ≤ l.to_ ∧ l.to_.toNat = j) := Lib.hid ⟨h1, by rw [hj]; rfl⟩
        rw [hj] at t1
        have q1 : decide (0 ≤ (j : Int)) = true := decide_eq_true (by omega)
        clear h1 hj
        by_cases h2 : j < b.places.length
        · have h2i : (j : Int) < (b.places.length : Int) := by omega
          obtain ⟨x, hx⟩ : ∃ x, b.places[j]? = some x := ⟨_, List.getElem?_eq_getElem h2⟩
          obtain ⟨bp, op, cs, rfl, hbp, -, hrp, u0, u1, u2, rfl, -⟩ := HS.out.at hx
          have cO : wr.cell? ⟨bp, op + j * 12 + 2, none⟩ = some (.int .i64 x.office) := (rangeAt_below hrp HR1.out.below hbp) 2 _ rfl
          have HM : Hid ((if 0 ≤ l.to_ then ((offs b)[l.to_.toNat]?).getD (-1) else -1) = x.office) := Lib.hid (by rw [if_pos HJ.out.1, HJ.out.2, offs_at hx]; rfl)
          clear hrp hx
          by_cases h3 : x.office = o
          · have q3 : (x.office == o) = true := by rw [beq_iff_eq]; exact h3
            have HN : Hid (foldS ((queW (offs b) q).take (k + 1)) o = addS s (totS l.part)) := Lib.hid (by rw [foldS_snoc HW.out, HSv.out]; show (if (if 0 ≤ l.to_ then ((offs b)[l.to_.toNat]?).getD (-1) else -1) = o then _ else _) = _; rw [HM.out, if_pos h3])
            obtain ⟨t, ht⟩ : ∃ t, t = totS l.part := ⟨_, rfl⟩
            have HTt := Lib.hid ht
            have HTb : Hid (I64 t) := Lib.hid (by rw [ht]; exact totS_bd _)
            rw [← ht] at HN
            clear h3 ht
            go_wp2_with fail
            refine (rtotal_any l.part _ _ (HPt.out.below stays_int HR1.out.below)).mono ?_
            rintro e w3 ⟨rfl, rfl⟩
            rw [← HTt.out]
            go_wp2_with fail
            refine (radd_any s t _ HSb.out HTb.out).mono ?_
            rintro e w4 ⟨rfl, rfl⟩
            go_wp2_with fail
            go_roundw
            case rel => exact ⟨k + 1, by omega, by go_num, by rw [HN.out], HRX.out⟩
            case measure => simp [Go.RowKit.intOf]; omega
          · have q3 : (x.office == o) = false := by rw [beq_eq_false_iff_ne]; exact h3
            have HN : Hid (foldS ((queW (offs b) q).take (k + 1)) o = s) := Lib.hid (by rw [foldS_snoc HW.out, HSv.out]; show (if (if 0 ≤ l.to_ then ((offs b)[l.to_.toNat]?).getD (-1) else -1) = o then _ else _) = _; rw [HM.out, if_neg h3])
            go_wp2_with fail
            go_roundw
            case rel => exact ⟨k + 1, by omega, by go_num, by rw [HN.out], HRX.out⟩
            case measure => simp [Go.RowKit.intOf]; omega
        · have h2i : ¬ (j : Int) < (b.places.length : Int) := by omega
          have HN : Hid (foldS ((queW (offs b) q).take (k + 1)) o = s) := Lib.hid (by rw [foldS_snoc HW.out, HSv.out]; show (if (if 0 ≤ l.to_ then ((offs b)[l.to_.toNat]?).getD (-1) else -1) = o then _ else _) = _; rw [if_pos HJ.out.1, HJ.out.2, List.getElem?_eq_none (by unfold offs; rw [List.length_map]; omega), if_neg (by have := HOo.out; simp; omega)])
          go_wp2_with fail
          go_roundw
          case rel => exact ⟨k + 1, by omega, by go_num, by rw [HN.out], HRX.out⟩
          case measure => simp [Go.RowKit.intOf]; omega
      · have q1 : decide (0 ≤ l.to_) = false := decide_eq_false h1
        have HN : Hid (foldS ((queW (offs b) q).take (k + 1)) o = s) := Lib.hid (by rw [foldS_snoc HW.out, HSv.out]; show (if (if 0 ≤ l.to_ then ((offs b)[l.to_.toNat]?).getD (-1) else -1) = o then _ else _) = _; rw [if_neg h1, if_neg (by have := HOo.out; omega)])
        go_wp2_with fail
        go_roundw
        case rel => exact ⟨k + 1, by omega, by go_num, by rw [HN.out], HRX.out⟩
        case measure => simp [Go.RowKit.intOf]; omega
    · obtain rfl : k = q.length := by omega
      have HE : Hid (s = foldS (queW (offs b) q) o) := Lib.hid (by rw [← HSv.out, ← queW_len (offs b) q, List.take_length])
      clear hlt hk
      go_wp2_with fail
      rw [← HE.out]
      go_ret
      exact ⟨rfl, HR1.out.below⟩
end Go.Proofs.YtepidpegoihllaaGreatDoor

