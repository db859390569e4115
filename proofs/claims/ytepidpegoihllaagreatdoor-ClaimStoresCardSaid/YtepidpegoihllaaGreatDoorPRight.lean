/- step.Right. -/
import Derived.Test.YtepidpegoihllaaGreatDoorPLit
import Derived.Test.YtepidpegoihllaaGreatDoorBCtx
namespace Go.Proofs.YtepidpegoihllaaGreatDoor
open Go.RowKit
theorem undStS : Tryz.prog.underlying 36 = some (.struct (Tryz.prog.fieldsOf 36)) := by kernel_rfl
theorem infoStS : (Tryz.prog.info? 36).map (·.size) = some 7 := by kernel_rfl
theorem undGt : Tryz.prog.underlying 74 = some (.struct (Tryz.prog.fieldsOf 74)) := by kernel_rfl
theorem infoGt : (Tryz.prog.info? 74).map (·.size) = some 4 := by kernel_rfl
set_option maxRecDepth 100000 in
set_option maxHeartbeats 8000000 in
theorem stepRight_any (b : BasinV) (p0 p1 p2 p3 p4 p5 p6 p7 : Option Addr) (q0 q1 q2 q3 q4 q5 q6 q7 : Nat) (s : StateV) (po pr pq pg pi pu : Option Addr) (qo qr qq qg qi qu : Nat) (w : World) (hS : BasinS b p0 p1 p2 p3 p4 p5 p6 p7 q0 q1 q2 q3 q4 q5 q6 q7 w) (hT : StateS s po pq qo qq w) (hM : LArg RInt 1 (.slice pr s.rem.length qr) s.rem w) (hG : LArg RGate 4 (.slice pg s.gates.length qg) s.gates w) (hI : LArg RInt 1 (.slice pi s.inn.length qi) s.inn w) (hU : LArg RInt 1 (.slice pu s.out.length qu) s.out w) (hN : BasinLen b) :
    Calls Tryz.prog 6 #[.agg #[.string b.name, .slice p0 b.owners.length q0, .int .i64 b.cells, .slice p1 b.places.length q1, .slice p2 b.links.length q2, .slice p3 b.towns.length q3, .slice p4 b.gauges.length q4, .slice p5 b.roads.length q5, .slice p6 b.shelters.length q6, .slice p7 b.room.length q7, .int .i64 b.err], .agg #[.int .i64 s.hour, .slice po s.own.length qo, .slice pr s.rem.length qr, .slice pq s.queue.length qq, .slice pg s.gates.length qg, .slice pi s.inn.length qi, .slice pu s.out.length qu]] w (RetT (LitOk b.owners.length b.places.length s ∧ s.own.length = b.places.length ∧ s.inn.length = b.owners.length) w) := by
  have HT := Lib.hid hT
  have HS := Lib.hid hS
  have HM := Lib.hid hM
  have HG := Lib.hid hG
  have HI := Lib.hid hI
  have HU := Lib.hid hU
  have hpl : b.places.length ≤ 1000 := by unfold BasinLen at hN; omega
  have hll : b.links.length ≤ 1000 := by unfold BasinLen at hN; omega
  have hol : b.owners.length ≤ 1000 := by unfold BasinLen at hN; omega
  have s1 : (w.alloc (.cells #[.string b.name, .slice p0 b.owners.length q0, .int .i64 b.cells, .slice p1 b.places.length q1, .slice p2 b.links.length q2, .slice p3 b.towns.length q3, .slice p4 b.gauges.length q4, .slice p5 b.roads.length q5, .slice p6 b.shelters.length q6, .slice p7 b.room.length q7, .int .i64 b.err] 31)).heap.size = w.heap.size + 1 := by simp
  have HR : Hid (RowsS w [(w.heap.size, .cells #[.string b.name, .slice p0 b.owners.length q0, .int .i64 b.cells, .slice p1 b.places.length q1, .slice p2 b.links.length q2, .slice p3 b.towns.length q3, .slice p4 b.gauges.length q4, .slice p5 b.roads.length q5, .slice p6 b.shelters.length q6, .slice p7 b.room.length q7, .int .i64 b.err] 31), ((w.heap.size + 1), .cells #[.int .i64 s.hour, .slice po s.own.length qo, .slice pr s.rem.length qr, .slice pq s.queue.length qq, .slice pg s.gates.length qg, .slice pi s.inn.length qi, .slice pu s.out.length qu] 36)] ((w.alloc (.cells #[.string b.name, .slice p0 b.owners.length q0, .int .i64 b.cells, .slice p1 b.places.length q1, .slice p2 b.links.length q2, .slice p3 b.towns.length q3, .slice p4 b.gauges.length q4, .slice p5 b.roads.length q5, .slice p6 b.shelters.length q6, .slice p7 b.room.length q7, .int .i64 b.err] 31)).alloc (.cells #[.int .i64 s.hour, .slice po s.own.length qo, .slice pr s.rem.length qr, .slice pq s.queue.length qq, .slice pg s.gates.length qg, .slice pi s.inn.length qi, .slice pu s.out.length qu] 36))) := Lib.hid (by
    have := ((RowsS.nil w).alloc (.cells #[.string b.name, .slice p0 b.owners.length q0, .int .i64 b.cells, .slice p1 b.places.length q1, .slice p2 b.links.length q2, .slice p3 b.towns.length q3, .slice p4 b.gauges.length q4, .slice p5 b.roads.length q5, .slice p6 b.shelters.length q6, .slice p7 b.room.length q7, .int .i64 b.err] 31)).alloc (.cells #[.int .i64 s.hour, .slice po s.own.length qo, .slice pr s.rem.length qr, .slice pq s.queue.length qq, .slice pg s.gates.length qg, .slice pi s.inn.length qi, .slice pu s.out.length qu] 36)
    rw [s1] at this
    exact this)
  clear hT hS hM hG hI hU hN s1
  go_enter Tryz.func6, Tryz.ntmps6
  go_upto_region 1 with fail
  generalize ((w.alloc (.cells #[.string b.name, .slice p0 b.owners.length q0, .int .i64 b.cells, .slice p1 b.places.length q1, .slice p2 b.links.length q2, .slice p3 b.towns.length q3, .slice p4 b.gauges.length q4, .slice p5 b.roads.length q5, .slice p6 b.shelters.length q6, .slice p7 b.room.length q7, .int .i64 b.err] 31)).alloc (.cells #[.int .i64 s.hour, .slice po s.own.length qo, .slice pr s.rem.length qr, .slice pq s.queue.length qq, .slice pg s.gates.length qg, .slice pi s.inn.length qi, .slice pu s.out.length qu] 36)) = w0 at *
  have z0 := HR.out.cell 1 0 rfl rfl
  have z1 := HR.out.cell 1 1 rfl rfl
  have z2 := HR.out.cell 1 2 rfl rfl
  have z4 := HR.out.cell 1 4 rfl rfl
  have z5 := HR.out.cell 1 5 rfl rfl
  have z6 := HR.out.cell 1 6 rfl rfl
  have b1 := HR.out.cell 0 1 rfl rfl
  have b3 := HR.out.cell 0 3 rfl rfl
  have b4 := HR.out.cell 0 4 rfl rfl
  by_cases h1 : s.hour < 0
  · have e1 : decide (s.hour < 0) = true := decide_eq_true h1
    go_wp2_with fail
    go_ret
    exact retT_no HR.out.below
  · have e1 : decide (s.hour < 0) = false := decide_eq_false h1
    by_cases h2 : 16777216 < s.hour
    · have e2 : decide (16777216 < s.hour) = true := decide_eq_true h2
      go_wp2_with fail
      go_ret
      exact retT_no HR.out.below
    · have e2 : decide (16777216 < s.hour) = false := decide_eq_false h2
      by_cases h3 : (s.own.length : Int) ≠ (b.places.length : Int)
      · have e3 : ((s.own.length : Int) != (b.places.length : Int)) = true := by rw [bne_iff_ne]; exact h3
        go_wp2_with fail
        go_ret
        exact retT_no HR.out.below
      · have e3 : ((s.own.length : Int) != (b.places.length : Int)) = false := by rw [bne_eq_false_iff_eq]; exact Classical.not_not.1 h3
        have H3 := Lib.hid (Classical.not_not.1 h3)
        clear h3
        by_cases h4 : (s.rem.length : Int) ≠ (b.places.length : Int)
        · have e4 : ((s.rem.length : Int) != (b.places.length : Int)) = true := by rw [bne_iff_ne]; exact h4
          go_wp2_with fail
          go_ret
          exact retT_no HR.out.below
        · have e4 : ((s.rem.length : Int) != (b.places.length : Int)) = false := by rw [bne_eq_false_iff_eq]; exact Classical.not_not.1 h4
          have H4 := Lib.hid (Classical.not_not.1 h4)
          clear h4
          by_cases h5 : (s.gates.length : Int) ≠ (b.links.length : Int)
          · have e5 : ((s.gates.length : Int) != (b.links.length : Int)) = true := by rw [bne_iff_ne]; exact h5
            go_wp2_with fail
            go_ret
            exact retT_no HR.out.below
          · have e5 : ((s.gates.length : Int) != (b.links.length : Int)) = false := by rw [bne_eq_false_iff_eq]; exact Classical.not_not.1 h5
            have H5 := Lib.hid (Classical.not_not.1 h5)
            clear h5
            by_cases h6 : (s.inn.length : Int) ≠ (b.owners.length : Int)
            · have e6 : ((s.inn.length : Int) != (b.owners.length : Int)) = true := by rw [bne_iff_ne]; exact h6
              go_wp2_with fail
              go_ret
              exact retT_no HR.out.below
            · have e6 : ((s.inn.length : Int) != (b.owners.length : Int)) = false := by rw [bne_eq_false_iff_eq]; exact Classical.not_not.1 h6
              have H6 := Lib.hid (Classical.not_not.1 h6)
              clear h6
              by_cases h7 : (s.out.length : Int) ≠ (b.owners.length : Int)
              · have e7 : ((s.out.length : Int) != (b.owners.length : Int)) = true := by rw [bne_iff_ne]; exact h7
                go_wp2_with fail
                go_ret
                exact retT_no HR.out.below
              · have e7 : ((s.out.length : Int) != (b.owners.length : Int)) = false := by rw [bne_eq_false_iff_eq]; exact Classical.not_not.1 h7
                have H7 := Lib.hid (Classical.not_not.1 h7)
                clear h7
                go_upto_region 4 with fail
                clear b3
                go_loopw [69] (fun iv wx => ∃ (k : Nat), k ≤ b.places.length ∧ iv = .int .i64 k ∧ RowsS w [(w.heap.size, .cells #[.string b.name, .slice p0 b.owners.length q0, .int .i64 b.cells, .slice p1 b.places.length q1, .slice p2 b.links.length q2, .slice p3 b.towns.length q3, .slice p4 b.gauges.length q4, .slice p5 b.roads.length q5, .slice p6 b.shelters.length q6, .slice p7 b.room.length q7, .int .i64 b.err] 31), ((w.heap.size + 1), .cells #[.int .i64 s.hour, .slice po s.own.length qo, .slice pr s.rem.length qr, .slice pq s.queue.length qq, .slice pg s.gates.length qg, .slice pi s.inn.length qi, .slice pu s.out.length qu] 36)] wx) (fun iv _ => b.places.length - (Go.RowKit.intOf iv).toNat)
                case atStart => exact ⟨0, Nat.zero_le _, rfl, HR.out⟩
                case round =>
                  obtain ⟨k, hk, rfl, hr⟩ := hrel
                  have HR1 := Lib.hid hr
                  clear hr HR
                  by_cases hlt : k < b.places.length
                  · have hlti : (k : Int) < (b.places.length : Int) := by omega
                    have hkr : k < s.rem.length := by have := H4.out; omega
                    have hkri : (k : Int) < (s.rem.length : Int) := by omega
                    obtain ⟨x, hx⟩ : ∃ x, b.places[k]? = some x := ⟨_, List.getElem?_eq_getElem hlt⟩
                    obtain ⟨r, hrk⟩ : ∃ r, s.rem[k]? = some r := ⟨_, List.getElem?_eq_getElem hkr⟩
                    obtain ⟨br, oR, csr, rfl, hbr, -, hrr, rfl, -, -⟩ := HM.out.at hrk
                    have HRm : Hid (w.rangeAt br (oR + k) [.int .i64 r]) := Lib.hid (by rw [Nat.mul_one] at hrr; exact hrr)
                    obtain ⟨g, o, cs, rfl, hbl, -, hrg, hcs⟩ := HS.out.l1.at hx
                    obtain ⟨v0, v1, v2, rfl, -, -, -, -, -, -, -, -, -, hv0, hv1, hv2⟩ := hcs
                    obtain ⟨a0, n0, rfl, -, -⟩ := hv0.slice
                    obtain ⟨a1, n1, rfl, -, -⟩ := hv1.slice
                    obtain ⟨a2, n2, rfl, -, -⟩ := hv2.slice
                    have HG1 : Hid (wr.rangeAt g (o + k * 12) [.string x.name, .int .i64 x.kind, .int .i64 x.office, .int .i64 x.cap, .slice a0 x.level.length n0, .slice a1 x.start.length n1, .int .i64 x.num, .int .i64 x.den, .int .i64 x.down, .int .i64 x.delay, .int .i64 x.floor, .slice a2 x.rain.length n2]) := Lib.hid (rangeAt_below hrg HR1.out.below hbl)
                    have HR2 := Lib.hid (HR1.out.alloc (.cells #[.string x.name, .int .i64 x.kind, .int .i64 x.office, .int .i64 x.cap, .slice a0 x.level.length n0, .slice a1 x.start.length n1, .int .i64 x.num, .int .i64 x.den, .int .i64 x.down, .int .i64 x.delay, .int .i64 x.floor, .slice a2 x.rain.length n2] 68))
                    obtain ⟨m, hm⟩ : ∃ m, m = IntKind.i64.wrap (x.den - 1) := ⟨_, rfl⟩
                    have W1 : IntKind.i64.wrap (x.den - 1) = m := hm.symm
                    clear hv0 hv1 hv2 hrg hrr hx hrk hm
                    go_upto_region 6 with (first | (refine wpList_load_range (by first | (go_simp; done) | rfl) 68 _ rfl _ _ rfl _ _ HG1.out undPl rfl infoPl ?_) | (refine wpList_store_row rfl 68 _ _ rfl _ #[.string x.name, .int .i64 x.kind, .int .i64 x.office, .int .i64 x.cap, .slice a0 x.level.length n0, .slice a1 x.start.length n1, .int .i64 x.num, .int .i64 x.den, .int .i64 x.down, .int .i64 x.delay, .int .i64 x.floor, .slice a2 x.rain.length n2] rfl rfl 68 _ ?_ infoPl rfl (by simp [Value.oneCell']) ?_; first | exact (heap_alloc_new _ _).trans rfl | exact heap_alloc_new _ _))
                    try rw [World.setRow_alloc_new]
                    clear HG1
                    generalize wr.alloc (.cells #[.string x.name, .int .i64 x.kind, .int .i64 x.office, .int .i64 x.cap, .slice a0 x.level.length n0, .slice a1 x.start.length n1, .int .i64 x.num, .int .i64 x.den, .int .i64 x.down, .int .i64 x.delay, .int .i64 x.floor, .slice a2 x.rain.length n2] 68) = w2 at *
                    generalize wr.heap.size = bP at *
                    refine wp_region_noPanic ?_
                    refine wp_region_held_drew (S := fun cw => RowsS w [(w.heap.size, .cells #[.string b.name, .slice p0 b.owners.length q0, .int .i64 b.cells, .slice (some ⟨g, o, none⟩) b.places.length q1, .slice p2 b.links.length q2, .slice p3 b.towns.length q3, .slice p4 b.gauges.length q4, .slice p5 b.roads.length q5, .slice p6 b.shelters.length q6, .slice p7 b.room.length q7, .int .i64 b.err] 31), ((w.heap.size + 1), .cells #[.int .i64 s.hour, .slice po s.own.length qo, .slice (some ⟨br, oR, none⟩) s.rem.length qr, .slice pq s.queue.length qq, .slice pg s.gates.length qg, .slice pi s.inn.length qi, .slice pu s.out.length qu] 36), (bP, .cells #[.string x.name, .int .i64 x.kind, .int .i64 x.office, .int .i64 x.cap, .slice a0 x.level.length n0, .slice a1 x.start.length n1, .int .i64 x.num, .int .i64 x.den, .int .i64 x.down, .int .i64 x.delay, .int .i64 x.floor, .slice a2 x.rain.length n2] 68)] cw) (by kernel_rfl) (HR2.out.drew) (fun hHeld => ?_)
                    refine tn 0 ?_
                    try simp only [Act.put, aL1, aL2, aL3]
                    refine tn 1 ?_ (hx := fun wz hSw => by have e4 := hSw.cell 1 2 rfl rfl; go_simp; try with_reducible rfl)
                    try simp only [Act.put, aL1, aL2, aL3]
                    refine tn 2 ?_
                    try simp only [Act.put, aL1, aL2, aL3]
                    refine tn 3 ?_
                    try simp only [Act.put, aL1, aL2, aL3]
                    refine tn 4 ?_ (hx := fun wz hSw => by have e4 := (rangeAt_below HRm.out hSw.below hbr) 0 (.int .i64 r) rfl; rw [Nat.add_zero] at e4; go_simp; try with_reducible rfl)
                    try simp only [Act.put, aL1, aL2, aL3]
                    by_cases h1 : r < 0
                    · have e1 : decide (r < 0) = true := decide_eq_true h1
                      refine tn 5 ?_
                      try simp only [Act.put, aL1, aL2, aL3]
                      refine tn 6 ?_
                      try simp only [Act.put, aL1, aL2, aL3]
                      refine skn 1 [(7, some 81), (8, some 82), (9, some 83), (10, some 84), (11, some 85), (12, some 86), (13, some 87), (14, some 88), (15, some 89), (16, some 90)] ?_
                      simp only [List.foldl_cons, List.foldl_nil, Act.put, aL1, aL2, aL3]
                      refine tn 17 ?_
                      try simp only [Act.put, aL1, aL2, aL3]
                      refine rdone (NoPanic.normal ?_)
                      go_wp2_with fail
                      go_ret
                      exact retT_no hHeld.below
                    · have e1 : decide (r < 0) = false := decide_eq_false h1
                      refine tn 5 ?_
                      try simp only [Act.put, aL1, aL2, aL3]
                      refine tn 6 ?_
                      try simp only [Act.put, aL1, aL2, aL3]
                      refine tn 7 ?_
                      try simp only [Act.put, aL1, aL2, aL3]
                      refine tn 8 ?_ (hx := fun wz hSw => by have e4 := hSw.cell 1 2 rfl rfl; go_simp; try with_reducible rfl)
                      try simp only [Act.put, aL1, aL2, aL3]
                      refine tn 9 ?_
                      try simp only [Act.put, aL1, aL2, aL3]
                      refine tn 10 ?_
                      try simp only [Act.put, aL1, aL2, aL3]
                      refine tn 11 ?_ (hx := fun wz hSw => by have e4 := (rangeAt_below HRm.out hSw.below hbr) 0 (.int .i64 r) rfl; rw [Nat.add_zero] at e4; go_simp; try with_reducible rfl)
                      try simp only [Act.put, aL1, aL2, aL3]
                      refine tn 12 ?_
                      try simp only [Act.put, aL1, aL2, aL3]
                      refine tn 13 ?_ (hx := fun wz hSw => by have e4 := hSw.cell 2 7 rfl rfl; go_simp; try with_reducible rfl)
                      try simp only [Act.put, aL1, aL2, aL3]
                      refine tn 14 ?_
                      try simp only [Act.put, aL1, aL2, aL3]
                      refine tn 15 ?_
                      try simp only [Act.put, aL1, aL2, aL3]
                      by_cases h2 : max 0 m < r
                      · have e2 : decide (max 0 m < r) = true := decide_eq_true h2
                        refine tn 16 ?_
                        try simp only [Act.put, aL1, aL2, aL3]
                        refine tn 17 ?_
                        try simp only [Act.put, aL1, aL2, aL3]
                        refine rdone (NoPanic.normal ?_)
                        go_wp2_with fail
                        go_ret
                        exact retT_no hHeld.below
                      · have e2 : decide (max 0 m < r) = false := decide_eq_false h2
                        refine tn 16 ?_
                        try simp only [Act.put, aL1, aL2, aL3]
                        refine tn 17 ?_
                        try simp only [Act.put, aL1, aL2, aL3]
                        refine rdone (NoPanic.normal ?_)
                        have HRX := Lib.hid (hHeld.take 2)
                        go_wp2_with fail
                        go_roundw
                        case rel => exact ⟨k + 1, by omega, by go_num, HRX.out⟩
                        case measure => simp [Go.RowKit.intOf]; omega
                  · obtain rfl : k = b.places.length := by omega
                    have b4 := HR1.out.cell 0 4 rfl rfl
                    clear hlt hk
                    go_upto_region 10 with fail
                    clear b4
                    rename World => wz
                    go_loopw [96] (fun iv wx => ∃ (k : Nat), k ≤ b.links.length ∧ iv = .int .i64 k ∧ RowsS w [(w.heap.size, .cells #[.string b.name, .slice p0 b.owners.length q0, .int .i64 b.cells, .slice p1 b.places.length q1, .slice p2 b.links.length q2, .slice p3 b.towns.length q3, .slice p4 b.gauges.length q4, .slice p5 b.roads.length q5, .slice p6 b.shelters.length q6, .slice p7 b.room.length q7, .int .i64 b.err] 31), ((w.heap.size + 1), .cells #[.int .i64 s.hour, .slice po s.own.length qo, .slice pr s.rem.length qr, .slice pq s.queue.length qq, .slice pg s.gates.length qg, .slice pi s.inn.length qi, .slice pu s.out.length qu] 36)] wx) (fun iv _ => b.links.length - (Go.RowKit.intOf iv).toNat)
                    case atStart => exact ⟨0, Nat.zero_le _, rfl, HR1.out⟩
                    case round =>
                      clear HR1
                      obtain ⟨k, hk, rfl, hr⟩ := hrel
                      have HR1 := Lib.hid hr
                      clear hr
                      by_cases hlt : k < b.links.length
                      · have hlti : (k : Int) < (b.links.length : Int) := by omega
                        have hkr : k < s.gates.length := by have := H5.out; omega
                        have hkri : (k : Int) < (s.gates.length : Int) := by omega
                        obtain ⟨x, hx⟩ : ∃ x, b.links[k]? = some x := ⟨_, List.getElem?_eq_getElem hlt⟩
                        obtain ⟨y, hy⟩ : ∃ y, s.gates[k]? = some y := ⟨_, List.getElem?_eq_getElem hkr⟩
                        obtain ⟨br, oR, csr, rfl, hbr, -, hrr, rfl, -, -⟩ := HG.out.at hy
                        obtain ⟨g, o, cs, rfl, hbl, -, hrg, hcs⟩ := HS.out.l2.at hx
                        obtain ⟨v0, v1, v2, rfl, -, -, -, -, -, -, -, -, -, -, -, -, -, -, -, hv0, hv1, hv2⟩ := hcs
                        obtain ⟨a0, n0, rfl, -, -⟩ := hv0.slice
                        obtain ⟨a1, n1, rfl, -, -⟩ := hv1.slice
                        obtain ⟨a2, n2, rfl, -, -⟩ := hv2.slice
                        have HG1 : Hid (wr.rangeAt g (o + k * 18) [.string x.name, .int .i64 x.kind, .int .i64 x.src, .int .i64 x.dst, .slice a0 x.rate.length n0, .slice a1 x.band.lo.length n1, .slice a2 x.band.hi.length n2, .int .i64 x.positions, .int .i64 x.speed, .int .i64 x.leak, .int .i64 x.crest, .int .i64 x.num, .int .i64 x.den, .int .i64 x.prime, .int .i64 x.brk, .int .i64 x.backNum, .int .i64 x.backDen, .int .i64 x.delay]) := Lib.hid (rangeAt_below hrg HR1.out.below hbl)
                        have HR2 := Lib.hid (HR1.out.alloc (.cells #[.string x.name, .int .i64 x.kind, .int .i64 x.src, .int .i64 x.dst, .slice a0 x.rate.length n0, .slice a1 x.band.lo.length n1, .slice a2 x.band.hi.length n2, .int .i64 x.positions, .int .i64 x.speed, .int .i64 x.leak, .int .i64 x.crest, .int .i64 x.num, .int .i64 x.den, .int .i64 x.prime, .int .i64 x.brk, .int .i64 x.backNum, .int .i64 x.backDen, .int .i64 x.delay] 72))
                        clear hv0 hv1 hv2 hrg hx hy
                        go_upto_region 12 with (first | (refine wpList_load_range (by first | (go_simp; done) | rfl) 72 _ rfl _ _ rfl _ _ HG1.out undLk rfl infoLk ?_) | (refine wpList_store_row rfl 72 _ _ rfl _ #[.string x.name, .int .i64 x.kind, .int .i64 x.src, .int .i64 x.dst, .slice a0 x.rate.length n0, .slice a1 x.band.lo.length n1, .slice a2 x.band.hi.length n2, .int .i64 x.positions, .int .i64 x.speed, .int .i64 x.leak, .int .i64 x.crest, .int .i64 x.num, .int .i64 x.den, .int .i64 x.prime, .int .i64 x.brk, .int .i64 x.backNum, .int .i64 x.backDen, .int .i64 x.delay] rfl rfl 72 _ ?_ infoLk rfl (by simp [Value.oneCell']) ?_; first | exact (heap_alloc_new _ _).trans rfl | exact heap_alloc_new _ _))
                        try rw [World.setRow_alloc_new]
                        clear HG1
                        generalize wr.alloc (.cells #[.string x.name, .int .i64 x.kind, .int .i64 x.src, .int .i64 x.dst, .slice a0 x.rate.length n0, .slice a1 x.band.lo.length n1, .slice a2 x.band.hi.length n2, .int .i64 x.positions, .int .i64 x.speed, .int .i64 x.leak, .int .i64 x.crest, .int .i64 x.num, .int .i64 x.den, .int .i64 x.prime, .int .i64 x.brk, .int .i64 x.backNum, .int .i64 x.backDen, .int .i64 x.delay] 72) = w2 at *
                        generalize wr.heap.size = bP at *
                        have z4 := HR2.out.cell 1 4 rfl rfl
                        have HG1 : Hid (w2.rangeAt br (oR + k * 4) [.int .i64 y.pos, .int .i64 y.target, .bool y.stuck, .bool y.opened]) := Lib.hid (rangeAt_below hrr HR2.out.below hbr)
                        have HR3 := Lib.hid (HR2.out.alloc (.cells #[.int .i64 y.pos, .int .i64 y.target, .bool y.stuck, .bool y.opened] 74))
                        clear hrr
                        go_upto_region 13 with (first | (refine wpList_load_range (by first | (go_simp; done) | rfl) 74 _ rfl _ _ rfl _ _ HG1.out undGt rfl infoGt ?_) | (refine wpList_store_row rfl 74 _ _ rfl _ #[.int .i64 y.pos, .int .i64 y.target, .bool y.stuck, .bool y.opened] rfl rfl 74 _ ?_ infoGt rfl (by simp [Value.oneCell']) ?_; first | exact (heap_alloc_new _ _).trans rfl | exact heap_alloc_new _ _))
                        try rw [World.setRow_alloc_new]
                        clear HG1 z4
                        generalize w2.alloc (.cells #[.int .i64 y.pos, .int .i64 y.target, .bool y.stuck, .bool y.opened] 74) = w3 at *
                        generalize w2.heap.size = bG at *
                        have HRX := Lib.hid (HR3.out.take 2)
                        have g0 := HR3.out.cell 3 0 rfl rfl
                        have g1 := HR3.out.cell 3 1 rfl rfl
                        have g3 := HR3.out.cell 3 3 rfl rfl
                        have k1 := HR3.out.cell 2 1 rfl rfl
                        have k7 := HR3.out.cell 2 7 rfl rfl
                        by_cases h1 : y.pos < 0
                        · have e1 : decide (y.pos < 0) = true := decide_eq_true h1
                          go_wp2_with fail
                          go_ret
                          exact retT_no HR3.out.below
                        · have e1 : decide (y.pos < 0) = false := decide_eq_false h1
                          by_cases h2 : x.positions < y.pos
                          · have e2 : decide (x.positions < y.pos) = true := decide_eq_true h2
                            go_wp2_with fail
                            go_ret
                            exact retT_no HR3.out.below
                          · have e2 : decide (x.positions < y.pos) = false := decide_eq_false h2
                            by_cases h3 : y.target < 0
                            · have e3 : decide (y.target < 0) = true := decide_eq_true h3
                              go_wp2_with fail
                              go_ret
                              exact retT_no HR3.out.below
                            · have e3 : decide (y.target < 0) = false := decide_eq_false h3
                              by_cases h4 : x.positions < y.target
                              · have e4 : decide (x.positions < y.target) = true := decide_eq_true h4
                                go_wp2_with fail
                                go_ret
                                exact retT_no HR3.out.below
                              · have e4 : decide (x.positions < y.target) = false := decide_eq_false h4
                                cases hstk : y.opened with
                                | false =>
                                  rw [hstk] at g3
                                  go_wp2_with fail
                                  go_roundw
                                  case rel => exact ⟨k + 1, by omega, by go_num, HRX.out⟩
                                  case measure => simp [Go.RowKit.intOf]; omega
                                | true =>
                                  rw [hstk] at g3
                                  by_cases h5 : x.kind ≠ 5
                                  · have e5 : (x.kind != 5) = true := by rw [bne_iff_ne]; exact h5
                                    by_cases h6 : x.kind ≠ 3
                                    · have e6 : (x.kind != 3) = true := by rw [bne_iff_ne]; exact h6
                                      go_wp2_with fail
                                      go_ret
                                      exact retT_no HR3.out.below
                                    · have e6 : (x.kind != 3) = false := by rw [bne_eq_false_iff_eq]; exact Classical.not_not.1 h6
                                      go_wp2_with fail
                                      go_roundw
                                      case rel => exact ⟨k + 1, by omega, by go_num, HRX.out⟩
                                      case measure => simp [Go.RowKit.intOf]; omega
                                  · have e5 : (x.kind != 5) = false := by rw [bne_eq_false_iff_eq]; exact Classical.not_not.1 h5
                                    go_wp2_with fail
                                    go_roundw
                                    case rel => exact ⟨k + 1, by omega, by go_num, HRX.out⟩
                                    case measure => simp [Go.RowKit.intOf]; omega
                      · obtain rfl : k = b.links.length := by omega
                        clear hlt hk
                        go_wp2_with (first | (refine wpList_load_rowW (by first | (go_simp; done) | rfl) 31 _ rfl _ rfl 31 _ _ _ (HR1.out.row 0 rfl) undBaS rfl infoBaS ?_) | (refine wpList_load_rowW (by first | (go_simp; done) | rfl) 36 _ rfl _ rfl 36 _ _ _ (HR1.out.row 1 rfl) undStS rfl infoStS ?_))
                        refine (litres_any b p0 p1 p2 p3 p4 p5 p6 p7 q0 q1 q2 q3 q4 q5 q6 q7 s po pr pq pg pi pu qo qr qq qg qi qu _ (HT.out.below HR1.out.below) hpl (by have := H3.out; omega) hol).mono ?_
                        rintro e w3 ⟨⟨n, bb, hbb, rfl⟩, hb3⟩
                        have HR4 := Lib.hid (HR1.out.step hb3)
                        clear hb3
                        cases bb with
                        | false =>
                          clear hbb
                          go_wp2_with fail
                          go_ret
                          exact retT_no HR4.out.below
                        | true =>
                          have HL := Lib.hid (hbb rfl)
                          clear hbb
                          have z5 := HR4.out.cell 1 5 rfl rfl
                          have z6 := HR4.out.cell 1 6 rfl rfl
                          go_wp2_with fail
                          refine (sumUp_any s.inn _ _ _ (HI.out.below stays_int HR4.out.below)).mono ?_
                          rintro e w4 ⟨⟨n1, b1, rfl⟩, rfl⟩
                          cases b1 with
                          | false =>
                            go_wp2_with fail
                            go_ret
                            exact retT_no HR4.out.below
                          | true =>
                            go_wp2_with fail
                            refine (sumUp_any s.out _ _ _ (HU.out.below stays_int HR4.out.below)).mono ?_
                            rintro e w5 ⟨⟨n2, b2, rfl⟩, rfl⟩
                            go_wp2_with fail
                            go_ret
                            exact ⟨b2, fun _ => ⟨HL.out, by have := H3.out; omega, by have := H6.out; omega⟩, rfl, HR4.out.below⟩
end Go.Proofs.YtepidpegoihllaaGreatDoor

