/- basin.rightTowns, rightGauges and rightRoads. -/
import Derived.Test.YtepidpegoihllaaGreatDoorBCtx
namespace Go.Proofs.YtepidpegoihllaaGreatDoor
open Go.RowKit
set_option maxRecDepth 100000 in
set_option maxHeartbeats 8000000 in
theorem towns_any (b : BasinV) (p0 p1 p2 p3 p4 p5 p6 p7 : Option Addr) (q0 q1 q2 q3 q4 q5 q6 q7 : Nat) (w : World) (hS : BasinS b p0 p1 p2 p3 p4 p5 p6 p7 q0 q1 q2 q3 q4 q5 q6 q7 w) (hN : BasinLen b) : Calls Tryz.prog 27 #[.agg #[.string b.name, .slice p0 b.owners.length q0, .int .i64 b.cells, .slice p1 b.places.length q1, .slice p2 b.links.length q2, .slice p3 b.towns.length q3, .slice p4 b.gauges.length q4, .slice p5 b.roads.length q5, .slice p6 b.shelters.length q6, .slice p7 b.room.length q7, .int .i64 b.err]] w (RetT (True) w) := by
  have HS := Lib.hid hS
  obtain ⟨n0, n0', n1, n1', n2, n3, n4, n5, n6, n7⟩ := hN
  clear hS
  go_enter Tryz.func27, Tryz.ntmps27
  go_upto_region 1 with fail
  have HR0 := Lib.hid (heap_alloc_new w (.cells #[.string b.name, .slice p0 b.owners.length q0, .int .i64 b.cells, .slice p1 b.places.length q1, .slice p2 b.links.length q2, .slice p3 b.towns.length q3, .slice p4 b.gauges.length q4, .slice p5 b.roads.length q5, .slice p6 b.shelters.length q6, .slice p7 b.room.length q7, .int .i64 b.err] 31))
  have HB0 := Lib.hid ((Below.refl w.heap.size w).alloc (Nat.le_refl _) (.cells #[.string b.name, .slice p0 b.owners.length q0, .int .i64 b.cells, .slice p1 b.places.length q1, .slice p2 b.links.length q2, .slice p3 b.towns.length q3, .slice p4 b.gauges.length q4, .slice p5 b.roads.length q5, .slice p6 b.shelters.length q6, .slice p7 b.room.length q7, .int .i64 b.err] 31))
  generalize w.alloc (.cells #[.string b.name, .slice p0 b.owners.length q0, .int .i64 b.cells, .slice p1 b.places.length q1, .slice p2 b.links.length q2, .slice p3 b.towns.length q3, .slice p4 b.gauges.length q4, .slice p5 b.roads.length q5, .slice p6 b.shelters.length q6, .slice p7 b.room.length q7, .int .i64 b.err] 31) = w0 at *
  have b5 := rowNG HR0.out 5 (.slice p3 b.towns.length q3) rfl
  go_wp2_with fail
  clear b5
  go_loopw [10] (fun iv wr => ∃ k : Nat, k ≤ b.towns.length ∧ iv = .int .i64 k ∧ wr.heap[w.heap.size]? = some (.cells #[.string b.name, .slice p0 b.owners.length q0, .int .i64 b.cells, .slice p1 b.places.length q1, .slice p2 b.links.length q2, .slice p3 b.towns.length q3, .slice p4 b.gauges.length q4, .slice p5 b.roads.length q5, .slice p6 b.shelters.length q6, .slice p7 b.room.length q7, .int .i64 b.err] 31 (0, 0)) ∧ Below w.heap.size w wr) (fun iv _ => b.towns.length - (Go.RowKit.intOf iv).toNat)
  case atStart => exact ⟨0, Nat.zero_le _, rfl, HR0.out, HB0.out⟩
  case round =>
    obtain ⟨k, hk, rfl, hrow, hb⟩ := hrel
    have HRr := Lib.hid hrow
    have HBr := Lib.hid hb
    clear hrow hb 
    by_cases hlt : k < b.towns.length
    · obtain ⟨x, hx⟩ : ∃ x, b.towns[k]? = some x := ⟨_, List.getElem?_eq_getElem hlt⟩
      obtain ⟨g, o, cs, ha, hbl, _, hrg, hcs⟩ := (HS.out.below HBr.out).l3.at hx
      subst ha
      obtain ⟨rfl, hbds⟩ := hcs
      clear hx
      have HR3 := Lib.hid (blk_below HRr.out ((Below.refl _ _).alloc (Nat.le_refl _) (.cells #[.string x.name, .int .i64 x.place, .int .i64 x.flood, .int .i64 x.lead, .int .i64 x.people, .int .i64 x.watch, .int .i64 x.quorum] 103)) (blk_lt HRr.out))
      have HB3 := Lib.hid (HBr.out.alloc HBr.out.size (.cells #[.string x.name, .int .i64 x.place, .int .i64 x.flood, .int .i64 x.lead, .int .i64 x.people, .int .i64 x.watch, .int .i64 x.quorum] 103))
      have HX3 := Lib.hid (heap_alloc_new wr (.cells #[.string x.name, .int .i64 x.place, .int .i64 x.flood, .int .i64 x.lead, .int .i64 x.people, .int .i64 x.watch, .int .i64 x.quorum] 103))
      have HRG := Lib.hid hrg
      have HBD := Lib.hid hbds
      clear hrg hbds
      go_upto_region 4 with (refine wpList_load_rangeG (by rfl) 103 _ rfl _ _ rfl _ _ HRG.out undTn rfl infoTn ?_)
      generalize wr.alloc (.cells #[.string x.name, .int .i64 x.place, .int .i64 x.flood, .int .i64 x.lead, .int .i64 x.people, .int .i64 x.watch, .int .i64 x.quorum] 103) = w3 at *
      generalize wr.heap.size = bx at *
      have d1 := rowNG HX3.out 1 (.int .i64 x.place) rfl
      have d2 := rowNG HX3.out 2 (.int .i64 x.flood) rfl
      have d3 := rowNG HX3.out 3 (.int .i64 x.lead) rfl
      have d4 := rowNG HX3.out 4 (.int .i64 x.people) rfl
      have d5 := rowNG HX3.out 5 (.int .i64 x.watch) rfl
      have d6 := rowNG HX3.out 6 (.int .i64 x.quorum) rfl
      have b3 := rowNG HR3.out 3 (.slice p1 b.places.length q1) rfl
      go_wp2_with fail
      refine (index_any x.place (b.places.length : Nat) _ (by omega)).mono ?_
      rintro e wq ⟨rfl, rfl⟩
      cases hB6 : inB x.place 0 (((b.places.length : Nat) : Int) - 1)
      · go_wp2_with fail
        go_ret
        exact retT_no HB3.out
      · have HB_6 := Lib.hid hB6
        clear hB6
        go_wp2_with fail
        refine (volume_any x.flood _).mono ?_
        rintro e wq ⟨rfl, rfl⟩
        cases hB5 : volB x.flood
        · go_wp2_with fail
          go_ret
          exact retT_no HB3.out
        · have HB_5 := Lib.hid hB5
          clear hB5
          go_wp2_with fail
          refine (in_anyG x.lead 0 24 _).mono ?_
          rintro e wq ⟨rfl, rfl⟩
          cases hB4 : inB x.lead 0 24
          · go_wp2_with fail
            go_ret
            exact retT_no HB3.out
          · have HB_4 := Lib.hid hB4
            clear hB4
            go_wp2_with fail
            refine (in_anyG x.people 0 1073741824 _).mono ?_
            rintro e wq ⟨rfl, rfl⟩
            cases hB3 : inB x.people 0 1073741824
            · go_wp2_with fail
              go_ret
              exact retT_no HB3.out
            · have HB_3 := Lib.hid hB3
              clear hB3
              go_wp2_with fail
              refine (volume_any x.watch _).mono ?_
              rintro e wq ⟨rfl, rfl⟩
              cases hB2 : volB x.watch
              · go_wp2_with fail
                go_ret
                exact retT_no HB3.out
              · have HB_2 := Lib.hid hB2
                clear hB2
                go_wp2_with fail
                refine (in_anyG x.quorum 0 128 _).mono ?_
                rintro e wq ⟨rfl, rfl⟩
                cases hB1 : inB x.quorum 0 128
                · go_wp2_with fail
                  go_ret
                  exact retT_no HB3.out
                · have HB_1 := Lib.hid hB1
                  clear hB1
                  go_wp2_with fail
                  go_roundw
                  case rel => exact ⟨k + 1, by omega, by go_num, HR3.out, HB3.out⟩
                  case measure => simp [Go.RowKit.intOf]; omega
    · have b8 := rowNG HRr.out 8 (.slice p6 b.shelters.length q6) rfl
      go_wp2_with fail
      clear b8
      go_loopw [55] (fun iv wr => ∃ k : Nat, k ≤ b.shelters.length ∧ iv = .int .i64 k ∧ wr.heap[w.heap.size]? = some (.cells #[.string b.name, .slice p0 b.owners.length q0, .int .i64 b.cells, .slice p1 b.places.length q1, .slice p2 b.links.length q2, .slice p3 b.towns.length q3, .slice p4 b.gauges.length q4, .slice p5 b.roads.length q5, .slice p6 b.shelters.length q6, .slice p7 b.room.length q7, .int .i64 b.err] 31 (0, 0)) ∧ Below w.heap.size w wr) (fun iv _ => b.shelters.length - (Go.RowKit.intOf iv).toNat)
      case atStart => exact ⟨0, Nat.zero_le _, rfl, HRr.out, HBr.out⟩
      case round =>
        obtain ⟨k, hk, rfl, hrow, hb⟩ := hrel
        have HRr := Lib.hid hrow
        have HBr := Lib.hid hb
        clear hrow hb 
        by_cases hlt : k < b.shelters.length
        · obtain ⟨x, hx⟩ : ∃ x, b.shelters[k]? = some x := ⟨_, List.getElem?_eq_getElem hlt⟩
          obtain ⟨g, o, cs, ha, hbl, _, hrg, hcs⟩ := (HS.out.below HBr.out).l6.at hx
          subst ha
          obtain ⟨rfl, hbds⟩ := hcs
          clear hx
          have HR3 := Lib.hid (blk_below HRr.out ((Below.refl _ _).alloc (Nat.le_refl _) (.cells #[.string x.name, .int .i64 x.room] 105)) (blk_lt HRr.out))
          have HB3 := Lib.hid (HBr.out.alloc HBr.out.size (.cells #[.string x.name, .int .i64 x.room] 105))
          have HX3 := Lib.hid (heap_alloc_new wr (.cells #[.string x.name, .int .i64 x.room] 105))
          have HRG := Lib.hid hrg
          have HBD := Lib.hid hbds
          clear hrg hbds
          go_upto_region 10 with (refine wpList_load_rangeG (by rfl) 105 _ rfl _ _ rfl _ _ HRG.out undSh rfl infoSh ?_)
          generalize wr.alloc (.cells #[.string x.name, .int .i64 x.room] 105) = w3 at *
          generalize wr.heap.size = bx at *
          have d1 := rowNG HX3.out 1 (.int .i64 x.room) rfl
          go_wp2_with fail
          refine (in_anyG x.room 0 1073741824 _).mono ?_
          rintro e wq ⟨rfl, rfl⟩
          cases hB1 : inB x.room 0 1073741824
          · go_wp2_with fail
            go_ret
            exact retT_no HB3.out
          · have HB_1 := Lib.hid hB1
            clear hB1
            go_wp2_with fail
            go_roundw
            case rel => exact ⟨k + 1, by omega, by go_num, HR3.out, HB3.out⟩
            case measure => simp [Go.RowKit.intOf]; omega
        · go_wp2_with fail
          go_ret
          exact retT_yes trivial HBr.out
theorem index_q (n : Int) (len : Nat) (w : World) (hl : len ≤ 1000) : Calls Tryz.prog 64 #[.int .i64 n, .int .i64 len] w fun e w' => e = .returned (.bool (inB n 0 ((len : Int) - 1))) ∧ w' = w := (index_any n len w (by omega)).mono fun _ _ ⟨h, hm⟩ => ⟨h, hm.symm⟩
theorem index_w (n l : Int) (w : World) (hl : 0 ≤ l ∧ l ≤ 9223372036854775807) : Calls Tryz.prog 64 #[.int .i64 n, .int .i64 l] w fun e w' => e = .returned (.bool (inB n 0 (l - 1))) ∧ w' = w := (index_any n l w hl).mono fun _ _ ⟨h, hm⟩ => ⟨h, hm.symm⟩
set_option maxRecDepth 100000 in
set_option maxHeartbeats 8000000 in
theorem gauges_any (b : BasinV) (p0 p1 p2 p3 p4 p5 p6 p7 : Option Addr) (q0 q1 q2 q3 q4 q5 q6 q7 : Nat) (w : World) (hS : BasinS b p0 p1 p2 p3 p4 p5 p6 p7 q0 q1 q2 q3 q4 q5 q6 q7 w) (hN : BasinLen b) (hcl : 0 ≤ b.cells ∧ b.cells ≤ 9223372036854775807) : Calls Tryz.prog 28 #[.agg #[.string b.name, .slice p0 b.owners.length q0, .int .i64 b.cells, .slice p1 b.places.length q1, .slice p2 b.links.length q2, .slice p3 b.towns.length q3, .slice p4 b.gauges.length q4, .slice p5 b.roads.length q5, .slice p6 b.shelters.length q6, .slice p7 b.room.length q7, .int .i64 b.err]] w (RetT (True) w) := by
  have HS := Lib.hid hS
  obtain ⟨n0, n0', n1, n1', n2, n3, n4, n5, n6, n7⟩ := hN
  clear hS
  go_enter Tryz.func28, Tryz.ntmps28
  go_upto_region 1 with fail
  have HR0 := Lib.hid (heap_alloc_new w (.cells #[.string b.name, .slice p0 b.owners.length q0, .int .i64 b.cells, .slice p1 b.places.length q1, .slice p2 b.links.length q2, .slice p3 b.towns.length q3, .slice p4 b.gauges.length q4, .slice p5 b.roads.length q5, .slice p6 b.shelters.length q6, .slice p7 b.room.length q7, .int .i64 b.err] 31))
  have HB0 := Lib.hid ((Below.refl w.heap.size w).alloc (Nat.le_refl _) (.cells #[.string b.name, .slice p0 b.owners.length q0, .int .i64 b.cells, .slice p1 b.places.length q1, .slice p2 b.links.length q2, .slice p3 b.towns.length q3, .slice p4 b.gauges.length q4, .slice p5 b.roads.length q5, .slice p6 b.shelters.length q6, .slice p7 b.room.length q7, .int .i64 b.err] 31))
  generalize w.alloc (.cells #[.string b.name, .slice p0 b.owners.length q0, .int .i64 b.cells, .slice p1 b.places.length q1, .slice p2 b.links.length q2, .slice p3 b.towns.length q3, .slice p4 b.gauges.length q4, .slice p5 b.roads.length q5, .slice p6 b.shelters.length q6, .slice p7 b.room.length q7, .int .i64 b.err] 31) = w0 at *
  have HIX : Hid (∀ (n : Int) (w : World), Calls Tryz.prog 64 #[.int .i64 n, .int .i64 b.cells] w fun e w' => e = .returned (.bool (inB n 0 (b.cells - 1))) ∧ w' = w) := Lib.hid fun n w => index_w n b.cells w hcl
  have b6 := rowNG HR0.out 6 (.slice p4 b.gauges.length q4) rfl
  go_wp2_with fail
  clear b6
  go_loopw [9] (fun iv wr => ∃ k : Nat, k ≤ b.gauges.length ∧ iv = .int .i64 k ∧ wr.heap[w.heap.size]? = some (.cells #[.string b.name, .slice p0 b.owners.length q0, .int .i64 b.cells, .slice p1 b.places.length q1, .slice p2 b.links.length q2, .slice p3 b.towns.length q3, .slice p4 b.gauges.length q4, .slice p5 b.roads.length q5, .slice p6 b.shelters.length q6, .slice p7 b.room.length q7, .int .i64 b.err] 31 (0, 0)) ∧ Below w.heap.size w wr) (fun iv _ => b.gauges.length - (Go.RowKit.intOf iv).toNat)
  case atStart => exact ⟨0, Nat.zero_le _, rfl, HR0.out, HB0.out⟩
  case round =>
    obtain ⟨k, hk, rfl, hrow, hb⟩ := hrel
    have HRr := Lib.hid hrow
    have HBr := Lib.hid hb
    clear hrow hb 
    by_cases hlt : k < b.gauges.length
    · obtain ⟨x, hx⟩ : ∃ x, b.gauges[k]? = some x := ⟨_, List.getElem?_eq_getElem hlt⟩
      obtain ⟨g, o, cs, ha, hbl, _, hrg, hcs⟩ := (HS.out.below HBr.out).l4.at hx
      subst ha
      obtain ⟨rfl, hbds⟩ := hcs
      clear hx
      have HR3 := Lib.hid (blk_below HRr.out ((Below.refl _ _).alloc (Nat.le_refl _) (.cells #[.string x.name, .int .i64 x.kind, .int .i64 x.target, .int .i64 x.err, .int .i64 x.drift] 107)) (blk_lt HRr.out))
      have HB3 := Lib.hid (HBr.out.alloc HBr.out.size (.cells #[.string x.name, .int .i64 x.kind, .int .i64 x.target, .int .i64 x.err, .int .i64 x.drift] 107))
      have HX3 := Lib.hid (heap_alloc_new wr (.cells #[.string x.name, .int .i64 x.kind, .int .i64 x.target, .int .i64 x.err, .int .i64 x.drift] 107))
      have HRG := Lib.hid hrg
      have HBD := Lib.hid hbds
      clear hrg hbds
      go_upto_region 4 with (refine wpList_load_rangeG (by rfl) 107 _ rfl _ _ rfl _ _ HRG.out undGg rfl infoGg ?_)
      generalize wr.alloc (.cells #[.string x.name, .int .i64 x.kind, .int .i64 x.target, .int .i64 x.err, .int .i64 x.drift] 107) = w3 at *
      generalize wr.heap.size = bx at *
      have d1 := rowNG HX3.out 1 (.int .i64 x.kind) rfl
      have d2 := rowNG HX3.out 2 (.int .i64 x.target) rfl
      have d3 := rowNG HX3.out 3 (.int .i64 x.err) rfl
      have d4 := rowNG HX3.out 4 (.int .i64 x.drift) rfl
      have b3 := rowNG HR3.out 3 (.slice p1 b.places.length q1) rfl
      have b2 := rowNG HR3.out 2 (.int .i64 b.cells) rfl
      have b4 := rowNG HR3.out 4 (.slice p2 b.links.length q2) rfl
      go_wp2_with fail
      refine (in_anyG x.kind 0 2 _).mono ?_
      rintro e wq ⟨rfl, rfl⟩
      cases hB3 : inB x.kind 0 2
      · go_wp2_with fail
        go_ret
        exact retT_no HB3.out
      · have HB_3 := Lib.hid hB3
        clear hB3
        go_wp2_with fail
        refine (in_anyG x.err 0 1099511627776 _).mono ?_
        rintro e wq ⟨rfl, rfl⟩
        cases hB2 : inB x.err 0 1099511627776
        · go_wp2_with fail
          go_ret
          exact retT_no HB3.out
        · have HB_2 := Lib.hid hB2
          clear hB2
          go_wp2_with fail
          refine (in_anyG x.drift 0 1440 _).mono ?_
          rintro e wq ⟨rfl, rfl⟩
          cases hB1 : inB x.drift 0 1440
          · go_wp2_with fail
            go_ret
            exact retT_no HB3.out
          · have HB_1 := Lib.hid hB1
            clear hB1
            have HR4 := Lib.hid (blk_below HR3.out ((Below.refl _ _).alloc (Nat.le_refl _) (.cells #[.int .i64 b.places.length, .int .i64 b.cells, .int .i64 b.links.length] 117)) (blk_lt HR3.out))
            have HX4 := Lib.hid (blk_below HX3.out ((Below.refl _ _).alloc (Nat.le_refl _) (.cells #[.int .i64 b.places.length, .int .i64 b.cells, .int .i64 b.links.length] 117)) (blk_lt HX3.out))
            have HA4 := Lib.hid (heap_alloc_new w3 (.cells #[.int .i64 b.places.length, .int .i64 b.cells, .int .i64 b.links.length] 117))
            have HB4 := Lib.hid (HB3.out.alloc HB3.out.size (.cells #[.int .i64 b.places.length, .int .i64 b.cells, .int .i64 b.links.length] 117))
            have hkind := inB_iff.1 HB_3.out
            go_upto_region 7 with fail
            generalize w3.alloc (.cells #[.int .i64 b.places.length, .int .i64 b.cells, .int .i64 b.links.length] 117) = w4 at *
            generalize w3.heap.size = ba at *
            clear d1 d2 d3 d4 b2 b3 b4
            have d1 := rowNG HX4.out 1 (.int .i64 x.kind) rfl
            have d2 := rowNG HX4.out 2 (.int .i64 x.target) rfl
            have e0 := rowNG HA4.out 0 (.int .i64 b.places.length) rfl
            have e1 := rowNG HA4.out 1 (.int .i64 b.cells) rfl
            have e2 := rowNG HA4.out 2 (.int .i64 b.links.length) rfl
            rcases (show x.kind = 0 ∨ x.kind = 1 ∨ x.kind = 2 by omega) with hkk | hkk | hkk
            · have hk0 : x.kind = 0 := hkk
              cases hBx : inB x.target 0 (((b.places.length : Nat) : Int) - 1)
              · have HBx := Lib.hid hBx
                clear hBx hkk
                go_quiet ((go_at_call 64; exact Calls.quiet_of_same (index_q x.target (b.places.length : Nat) _ (by omega))))
                rw [HBx.out]
                go_wp2_with fail
                go_ret
                exact retT_no (below_drewN HB4.out)
              · have HBx := Lib.hid hBx
                clear hBx hkk
                go_quiet ((go_at_call 64; exact Calls.quiet_of_same (index_q x.target (b.places.length : Nat) _ (by omega))))
                rw [HBx.out]
                go_wp2_with fail
                go_roundw
                case rel => exact ⟨k + 1, by omega, by go_num, HR4.out, below_drewN HB4.out⟩
                case measure => simp [Go.RowKit.intOf]; omega
            · have hk0 : x.kind = 1 := hkk
              cases hBx : inB x.target 0 (b.cells - 1)
              · have HBx := Lib.hid hBx
                clear hBx hkk
                go_quiet ((go_at_call 64; exact Calls.quiet_of_same (HIX.out _ _)))
                rw [HBx.out]
                go_wp2_with fail
                go_ret
                exact retT_no (below_drewN HB4.out)
              · have HBx := Lib.hid hBx
                clear hBx hkk
                go_quiet ((go_at_call 64; exact Calls.quiet_of_same (HIX.out _ _)))
                rw [HBx.out]
                go_wp2_with fail
                go_roundw
                case rel => exact ⟨k + 1, by omega, by go_num, HR4.out, below_drewN HB4.out⟩
                case measure => simp [Go.RowKit.intOf]; omega
            · have hk0 : x.kind = 2 := hkk
              cases hBx : inB x.target 0 (((b.links.length : Nat) : Int) - 1)
              · have HBx := Lib.hid hBx
                clear hBx hkk
                go_quiet ((go_at_call 64; exact Calls.quiet_of_same (index_q x.target (b.links.length : Nat) _ (by omega))))
                rw [HBx.out]
                go_wp2_with fail
                go_ret
                exact retT_no (below_drewN HB4.out)
              · have HBx := Lib.hid hBx
                clear hBx hkk
                go_quiet ((go_at_call 64; exact Calls.quiet_of_same (index_q x.target (b.links.length : Nat) _ (by omega))))
                rw [HBx.out]
                go_wp2_with fail
                go_roundw
                case rel => exact ⟨k + 1, by omega, by go_num, HR4.out, below_drewN HB4.out⟩
                case measure => simp [Go.RowKit.intOf]; omega
    · go_wp2_with fail
      go_ret
      exact retT_yes trivial HBr.out
set_option maxRecDepth 100000 in
set_option maxHeartbeats 8000000 in
theorem roads_any (b : BasinV) (p0 p1 p2 p3 p4 p5 p6 p7 : Option Addr) (q0 q1 q2 q3 q4 q5 q6 q7 : Nat) (w : World) (hS : BasinS b p0 p1 p2 p3 p4 p5 p6 p7 q0 q1 q2 q3 q4 q5 q6 q7 w) (hN : BasinLen b) : Calls Tryz.prog 29 #[.agg #[.string b.name, .slice p0 b.owners.length q0, .int .i64 b.cells, .slice p1 b.places.length q1, .slice p2 b.links.length q2, .slice p3 b.towns.length q3, .slice p4 b.gauges.length q4, .slice p5 b.roads.length q5, .slice p6 b.shelters.length q6, .slice p7 b.room.length q7, .int .i64 b.err]] w (RetT (True) w) := by
  have HS := Lib.hid hS
  obtain ⟨n0, n0', n1, n1', n2, n3, n4, n5, n6, n7⟩ := hN
  clear hS
  go_enter Tryz.func29, Tryz.ntmps29
  go_upto_region 1 with fail
  have HR0 := Lib.hid (heap_alloc_new w (.cells #[.string b.name, .slice p0 b.owners.length q0, .int .i64 b.cells, .slice p1 b.places.length q1, .slice p2 b.links.length q2, .slice p3 b.towns.length q3, .slice p4 b.gauges.length q4, .slice p5 b.roads.length q5, .slice p6 b.shelters.length q6, .slice p7 b.room.length q7, .int .i64 b.err] 31))
  have HB0 := Lib.hid ((Below.refl w.heap.size w).alloc (Nat.le_refl _) (.cells #[.string b.name, .slice p0 b.owners.length q0, .int .i64 b.cells, .slice p1 b.places.length q1, .slice p2 b.links.length q2, .slice p3 b.towns.length q3, .slice p4 b.gauges.length q4, .slice p5 b.roads.length q5, .slice p6 b.shelters.length q6, .slice p7 b.room.length q7, .int .i64 b.err] 31))
  generalize w.alloc (.cells #[.string b.name, .slice p0 b.owners.length q0, .int .i64 b.cells, .slice p1 b.places.length q1, .slice p2 b.links.length q2, .slice p3 b.towns.length q3, .slice p4 b.gauges.length q4, .slice p5 b.roads.length q5, .slice p6 b.shelters.length q6, .slice p7 b.room.length q7, .int .i64 b.err] 31) = w0 at *
  have b7 := rowNG HR0.out 7 (.slice p5 b.roads.length q5) rfl
  go_wp2_with fail
  clear b7
  go_loopw [8] (fun iv wr => ∃ k : Nat, k ≤ b.roads.length ∧ iv = .int .i64 k ∧ wr.heap[w.heap.size]? = some (.cells #[.string b.name, .slice p0 b.owners.length q0, .int .i64 b.cells, .slice p1 b.places.length q1, .slice p2 b.links.length q2, .slice p3 b.towns.length q3, .slice p4 b.gauges.length q4, .slice p5 b.roads.length q5, .slice p6 b.shelters.length q6, .slice p7 b.room.length q7, .int .i64 b.err] 31 (0, 0)) ∧ Below w.heap.size w wr) (fun iv _ => b.roads.length - (Go.RowKit.intOf iv).toNat)
  case atStart => exact ⟨0, Nat.zero_le _, rfl, HR0.out, HB0.out⟩
  case round =>
    obtain ⟨k, hk, rfl, hrow, hb⟩ := hrel
    have HRr := Lib.hid hrow
    have HBr := Lib.hid hb
    clear hrow hb 
    by_cases hlt : k < b.roads.length
    · obtain ⟨x, hx⟩ : ∃ x, b.roads[k]? = some x := ⟨_, List.getElem?_eq_getElem hlt⟩
      obtain ⟨g, o, cs, ha, hbl, _, hrg, hcs⟩ := (HS.out.below HBr.out).l5.at hx
      subst ha
      obtain ⟨rfl, hbds⟩ := hcs
      clear hx
      have HR3 := Lib.hid (blk_below HRr.out ((Below.refl _ _).alloc (Nat.le_refl _) (.cells #[.string x.name, .int .i64 x.src, .int .i64 x.dst, .int .i64 x.hours, .int .i64 x.flow, .int .i64 x.byp, .int .i64 x.limit] 109)) (blk_lt HRr.out))
      have HB3 := Lib.hid (HBr.out.alloc HBr.out.size (.cells #[.string x.name, .int .i64 x.src, .int .i64 x.dst, .int .i64 x.hours, .int .i64 x.flow, .int .i64 x.byp, .int .i64 x.limit] 109))
      have HX3 := Lib.hid (heap_alloc_new wr (.cells #[.string x.name, .int .i64 x.src, .int .i64 x.dst, .int .i64 x.hours, .int .i64 x.flow, .int .i64 x.byp, .int .i64 x.limit] 109))
      have HRG := Lib.hid hrg
      have HBD := Lib.hid hbds
      clear hrg hbds
      go_upto_region 4 with (refine wpList_load_rangeG (by rfl) 109 _ rfl _ _ rfl _ _ HRG.out undRo rfl infoRo ?_)
      generalize wr.alloc (.cells #[.string x.name, .int .i64 x.src, .int .i64 x.dst, .int .i64 x.hours, .int .i64 x.flow, .int .i64 x.byp, .int .i64 x.limit] 109) = w3 at *
      generalize wr.heap.size = bx at *
      have d1 := rowNG HX3.out 1 (.int .i64 x.src) rfl
      have d2 := rowNG HX3.out 2 (.int .i64 x.dst) rfl
      have d3 := rowNG HX3.out 3 (.int .i64 x.hours) rfl
      have d4 := rowNG HX3.out 4 (.int .i64 x.flow) rfl
      have d5 := rowNG HX3.out 5 (.int .i64 x.byp) rfl
      have d6 := rowNG HX3.out 6 (.int .i64 x.limit) rfl
      have b3 := rowNG HR3.out 3 (.slice p1 b.places.length q1) rfl
      have b5 := rowNG HR3.out 5 (.slice p3 b.towns.length q3) rfl
      have b8 := rowNG HR3.out 8 (.slice p6 b.shelters.length q6) rfl
      go_wp2_with fail
      refine (index_any x.src (b.towns.length : Nat) _ (by omega)).mono ?_
      rintro e wq ⟨rfl, rfl⟩
      cases hB6 : inB x.src 0 (((b.towns.length : Nat) : Int) - 1)
      · go_wp2_with fail
        go_ret
        exact retT_no HB3.out
      · have HB_6 := Lib.hid hB6
        clear hB6
        go_wp2_with fail
        refine (index_any x.dst ((b.towns.length : Int) + (b.shelters.length : Int)) _ (by omega)).mono ?_
        rintro e wq ⟨rfl, rfl⟩
        cases hB5 : inB x.dst 0 ((b.towns.length : Int) + (b.shelters.length : Int) - 1)
        · go_wp2_with fail
          go_ret
          exact retT_no HB3.out
        · have HB_5 := Lib.hid hB5
          clear hB5
          cases hT4 : (x.src == x.dst)
          rotate_left 1
          · go_wp2_with fail
            go_ret
            exact retT_no HB3.out
          · skip
            go_wp2_with fail
            refine (in_anyG x.hours 1 24 _).mono ?_
            rintro e wq ⟨rfl, rfl⟩
            cases hB3 : inB x.hours 1 24
            · go_wp2_with fail
              go_ret
              exact retT_no HB3.out
            · have HB_3 := Lib.hid hB3
              clear hB3
              go_wp2_with fail
              refine (in_anyG x.flow 0 1073741824 _).mono ?_
              rintro e wq ⟨rfl, rfl⟩
              cases hB2 : inB x.flow 0 1073741824
              · go_wp2_with fail
                go_ret
                exact retT_no HB3.out
              · have HB_2 := Lib.hid hB2
                clear hB2
                go_wp2_with fail
                refine (volume_any x.limit _).mono ?_
                rintro e wq ⟨rfl, rfl⟩
                cases hB1 : volB x.limit
                · go_wp2_with fail
                  go_ret
                  exact retT_no HB3.out
                · have HB_1 := Lib.hid hB1
                  clear hB1
                  cases hT0 : (x.byp == -1)
                  · have hT1 : (x.byp != -1) = true := by rw [bne_iff_ne]; exact beq_eq_false_iff_ne.1 hT0
                    go_wp2_with fail
                    refine (index_any x.byp (b.places.length : Nat) _ (by omega)).mono ?_
                    rintro e wq ⟨rfl, rfl⟩
                    cases hB1 : inB x.byp 0 (((b.places.length : Nat) : Int) - 1)
                    · go_wp2_with fail
                      go_ret
                      exact retT_no HB3.out
                    · have HB_1 := Lib.hid hB1
                      clear hB1
                      go_wp2_with fail
                      go_roundw
                      case rel => exact ⟨k + 1, by omega, by go_num, HR3.out, HB3.out⟩
                      case measure => simp [Go.RowKit.intOf]; omega
                  · have hT1 : (x.byp != -1) = false := by have := beq_iff_eq.1 hT0; rw [this]; rfl
                    cases hT2 : (x.limit != 0)
                    · go_wp2_with fail
                      go_roundw
                      case rel => exact ⟨k + 1, by omega, by go_num, HR3.out, HB3.out⟩
                      case measure => simp [Go.RowKit.intOf]; omega
                    · go_wp2_with fail
                      go_ret
                      exact retT_no HB3.out
    · go_wp2_with fail
      go_ret
      exact retT_yes trivial HBr.out
end Go.Proofs.YtepidpegoihllaaGreatDoor

