/- basin.rightHead. -/
import Derived.Test.YtepidpegoihllaaGreatDoorBCtx
namespace Go.Proofs.YtepidpegoihllaaGreatDoor
open Go.RowKit
set_option maxRecDepth 100000 in
set_option maxHeartbeats 8000000 in
theorem head_right (b : BasinV) (p0 p1 p2 p3 p4 p5 p6 p7 : Option Addr) (q0 q1 q2 q3 q4 q5 q6 q7 : Nat) (w : World) (hS : BasinS b p0 p1 p2 p3 p4 p5 p6 p7 q0 q1 q2 q3 q4 q5 q6 q7 w) (hnm : b.name.size ≤ maxLen) : Calls Tryz.prog 21 #[.agg #[.string b.name, .slice p0 b.owners.length q0, .int .i64 b.cells, .slice p1 b.places.length q1, .slice p2 b.links.length q2, .slice p3 b.towns.length q3, .slice p4 b.gauges.length q4, .slice p5 b.roads.length q5, .slice p6 b.shelters.length q6, .slice p7 b.room.length q7, .int .i64 b.err]] w (RetT (BasinLen b ∧ 0 ≤ b.cells ∧ b.cells ≤ 64 ∧ b.room.length = 3) w) := by
  have HS := Lib.hid hS
  clear hS
  unfold maxLen at hnm
  go_enter Tryz.func21, Tryz.ntmps21
  go_upto_region 1 with fail
  have HR0 := Lib.hid (heap_alloc_new w (.cells #[.string b.name, .slice p0 b.owners.length q0, .int .i64 b.cells, .slice p1 b.places.length q1, .slice p2 b.links.length q2, .slice p3 b.towns.length q3, .slice p4 b.gauges.length q4, .slice p5 b.roads.length q5, .slice p6 b.shelters.length q6, .slice p7 b.room.length q7, .int .i64 b.err] 31))
  have HB0 := Lib.hid ((Below.refl w.heap.size w).alloc (Nat.le_refl _) (.cells #[.string b.name, .slice p0 b.owners.length q0, .int .i64 b.cells, .slice p1 b.places.length q1, .slice p2 b.links.length q2, .slice p3 b.towns.length q3, .slice p4 b.gauges.length q4, .slice p5 b.roads.length q5, .slice p6 b.shelters.length q6, .slice p7 b.room.length q7, .int .i64 b.err] 31))
  generalize w.alloc (.cells #[.string b.name, .slice p0 b.owners.length q0, .int .i64 b.cells, .slice p1 b.places.length q1, .slice p2 b.links.length q2, .slice p3 b.towns.length q3, .slice p4 b.gauges.length q4, .slice p5 b.roads.length q5, .slice p6 b.shelters.length q6, .slice p7 b.room.length q7, .int .i64 b.err] 31) = w0 at *
  have b0 := rowNG HR0.out 0 (.string b.name) rfl
  have b1 := rowNG HR0.out 1 (.slice p0 b.owners.length q0) rfl
  have b2 := rowNG HR0.out 2 (.int .i64 b.cells) rfl
  have b3 := rowNG HR0.out 3 (.slice p1 b.places.length q1) rfl
  have b4 := rowNG HR0.out 4 (.slice p2 b.links.length q2) rfl
  have b5 := rowNG HR0.out 5 (.slice p3 b.towns.length q3) rfl
  have b6 := rowNG HR0.out 6 (.slice p4 b.gauges.length q4) rfl
  have b7 := rowNG HR0.out 7 (.slice p5 b.roads.length q5) rfl
  have b8 := rowNG HR0.out 8 (.slice p6 b.shelters.length q6) rfl
  have b9 := rowNG HR0.out 9 (.slice p7 b.room.length q7) rfl
  have b10 := rowNG HR0.out 10 (.int .i64 b.err) rfl
  by_cases hN9 : b.name.size ≤ 500
  rotate_left 1
  · have tN9 : (500 : Int) < (b.name.size : Int) := by omega
    clear hN9
    go_wp2_with fail
    go_ret
    exact retT_no HB0.out
  · have tN9 : ¬ (500 : Int) < (b.name.size : Int) := by omega
    go_wp2_with fail
    refine (in_anyG (b.owners.length : Nat) 1 16 _).mono ?_
    rintro e wq ⟨rfl, rfl⟩
    cases hB8 : inB ((b.owners.length : Nat) : Int) 1 16
    · go_wp2_with fail
      go_ret
      exact retT_no HB0.out
    · have HB_8 := Lib.hid hB8
      clear hB8
      go_wp2_with fail
      refine (in_anyG b.cells 0 64 _).mono ?_
      rintro e wq ⟨rfl, rfl⟩
      cases hB7 : inB b.cells 0 64
      · go_wp2_with fail
        go_ret
        exact retT_no HB0.out
      · have HB_7 := Lib.hid hB7
        clear hB7
        go_wp2_with fail
        refine (in_anyG (b.places.length : Nat) 1 64 _).mono ?_
        rintro e wq ⟨rfl, rfl⟩
        cases hB6 : inB ((b.places.length : Nat) : Int) 1 64
        · go_wp2_with fail
          go_ret
          exact retT_no HB0.out
        · have HB_6 := Lib.hid hB6
          clear hB6
          by_cases hN5 : b.links.length ≤ 96
          rotate_left 1
          · have tN5 : (96 : Int) < (b.links.length : Int) := by omega
            clear hN5
            go_wp2_with fail
            go_ret
            exact retT_no HB0.out
          · have tN5 : ¬ (96 : Int) < (b.links.length : Int) := by omega
            by_cases hN4 : b.towns.length ≤ 40
            rotate_left 1
            · have tN4 : (40 : Int) < (b.towns.length : Int) := by omega
              clear hN4
              go_wp2_with fail
              go_ret
              exact retT_no HB0.out
            · have tN4 : ¬ (40 : Int) < (b.towns.length : Int) := by omega
              by_cases hN3 : b.gauges.length ≤ 128
              rotate_left 1
              · have tN3 : (128 : Int) < (b.gauges.length : Int) := by omega
                clear hN3
                go_wp2_with fail
                go_ret
                exact retT_no HB0.out
              · have tN3 : ¬ (128 : Int) < (b.gauges.length : Int) := by omega
                by_cases hN2 : b.roads.length ≤ 128
                rotate_left 1
                · have tN2 : (128 : Int) < (b.roads.length : Int) := by omega
                  clear hN2
                  go_wp2_with fail
                  go_ret
                  exact retT_no HB0.out
                · have tN2 : ¬ (128 : Int) < (b.roads.length : Int) := by omega
                  by_cases hN1 : b.shelters.length ≤ 40
                  rotate_left 1
                  · have tN1 : (40 : Int) < (b.shelters.length : Int) := by omega
                    clear hN1
                    go_wp2_with fail
                    go_ret
                    exact retT_no HB0.out
                  · have tN1 : ¬ (40 : Int) < (b.shelters.length : Int) := by omega
                    by_cases hrm : b.room.length = 3
                    rotate_left 1
                    · have tR : ((b.room.length : Int) != 3) = true := by rw [bne_iff_ne]; omega
                      go_wp2_with fail
                      go_ret
                      exact retT_no HB0.out
                    · have tR : ((b.room.length : Int) != 3) = false := by rw [hrm]; rfl
                      have hr3 := Lib.hid hrm
                      have hr4 : b.room.length ≤ 3 := by omega
                      clear hrm
                      go_wp2_with fail
                      refine (in_anyG b.err 0 1099511627776 _).mono ?_
                      rintro e wq ⟨rfl, rfl⟩
                      cases hB1 : inB b.err 0 1099511627776
                      · go_wp2_with fail
                        go_ret
                        exact retT_no HB0.out
                      · have HB_1 := Lib.hid hB1
                        clear hB1
                        have HP : Hid (BasinLen b ∧ 0 ≤ b.cells ∧ b.cells ≤ 64 ∧ b.room.length = 3) := Lib.hid (by have := inB_iff.1 HB_8.out; have := inB_iff.1 HB_7.out; have := inB_iff.1 HB_6.out; have := hr3.out; unfold BasinLen; omega)
                        go_wp2_with fail
                        clear b1 b2 b3 b4 b5 b6 b7 b8 b9 b10
                        go_loopw [76] (fun iv wr => ∃ k : Nat, k ≤ b.name.size ∧ iv = .int .i64 k ∧ wr.heap[w.heap.size]? = some (.cells #[.string b.name, .slice p0 b.owners.length q0, .int .i64 b.cells, .slice p1 b.places.length q1, .slice p2 b.links.length q2, .slice p3 b.towns.length q3, .slice p4 b.gauges.length q4, .slice p5 b.roads.length q5, .slice p6 b.shelters.length q6, .slice p7 b.room.length q7, .int .i64 b.err] 31 (0, 0)) ∧ Below w.heap.size w wr) (fun iv _ => b.name.size - (Go.RowKit.intOf iv).toNat)
                        case atStart => exact ⟨0, Nat.zero_le _, rfl, HR0.out, HB0.out⟩
                        case round =>
                          obtain ⟨k, hk, rfl, hrow, hb⟩ := hrel
                          have HRs := Lib.hid hrow
                          have HBs := Lib.hid hb
                          clear hrow hb b0
                          have b0 := rowNG HRs.out 0 (.string b.name) rfl
                          by_cases hlt : k < b.name.size
                          · go_upto_region 7 with fail
                            generalize ((b.name[k]).toNat : Int) = c at *
                            by_cases t1 : c < 32
                            · go_wp2_with fail
                              go_ret
                              exact retT_no HBs.out
                            by_cases t2 : 126 < c
                            · go_wp2_with fail
                              go_ret
                              exact retT_no HBs.out
                            cases t3 : (c == 34)
                            · cases t4 : (c == 92)
                              · go_wp2_with fail
                                go_roundw
                                case rel => exact ⟨k + 1, by omega, by go_num, HRs.out, HBs.out⟩
                                case measure => simp [Go.RowKit.intOf]; omega
                              · go_wp2_with fail
                                go_ret
                                exact retT_no HBs.out
                            · go_wp2_with fail
                              go_ret
                              exact retT_no HBs.out
                          · clear HR0 HB0
                            have b9 := rowNG HRs.out 9 (.slice p7 b.room.length q7) rfl
                            go_wp2_with fail
                            clear b0 b9
                            go_loopw [101] (fun iv wr => ∃ k : Nat, k ≤ b.room.length ∧ iv = .int .i64 k ∧ wr.heap[w.heap.size]? = some (.cells #[.string b.name, .slice p0 b.owners.length q0, .int .i64 b.cells, .slice p1 b.places.length q1, .slice p2 b.links.length q2, .slice p3 b.towns.length q3, .slice p4 b.gauges.length q4, .slice p5 b.roads.length q5, .slice p6 b.shelters.length q6, .slice p7 b.room.length q7, .int .i64 b.err] 31 (0, 0)) ∧ Below w.heap.size w wr) (fun iv _ => b.room.length - (Go.RowKit.intOf iv).toNat)
                            case atStart => exact ⟨0, Nat.zero_le _, rfl, HRs.out, HBs.out⟩
                            case round =>
                              obtain ⟨k, hk, rfl, hrow, hb⟩ := hrel
                              have HRr := Lib.hid hrow
                              have HBr := Lib.hid hb
                              clear hrow hb
                              by_cases hlt : k < b.room.length
                              · obtain ⟨x, hx⟩ : ∃ x, b.room[k]? = some x := ⟨_, List.getElem?_eq_getElem hlt⟩
                                obtain ⟨g, o, cs, ha, hbl, _, hrg, hcs⟩ := (HS.out.below HBr.out).l7.at hx
                                subst ha
                                obtain ⟨rfl, hbds⟩ := hcs
                                have c0 : wr.cell? ⟨g, o + k * 1, none⟩ = some (.int .i64 x) := hrg 0 _ rfl
                                rw [Nat.mul_one] at c0
                                clear hx hrg hbds
                                go_wp2_with fail
                                refine (volume_any x _).mono ?_
                                rintro e wq ⟨rfl, rfl⟩
                                cases hB1 : volB x
                                · go_wp2_with fail
                                  go_ret
                                  exact retT_no HBr.out
                                · have HB_1 := Lib.hid hB1
                                  clear hB1
                                  go_wp2_with fail
                                  go_roundw
                                  case rel => exact ⟨k + 1, by omega, by go_num, HRr.out, HBr.out⟩
                                  case measure => simp [Go.RowKit.intOf]; omega
                              · go_wp2_with fail
                                go_ret
                                exact retT_yes HP.out HBr.out
end Go.Proofs.YtepidpegoihllaaGreatDoor

