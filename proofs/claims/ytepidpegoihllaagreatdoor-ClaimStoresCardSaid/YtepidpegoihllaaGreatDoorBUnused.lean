/- basin.rightUnused. -/
import Derived.Test.YtepidpegoihllaaGreatDoorBCtx
namespace Go.Proofs.YtepidpegoihllaaGreatDoor
open Go.RowKit
def UnusedOk (l : LinkV) : Prop := l.kind ≠ 0 → l.kind ≠ 2 → l.positions = 0 ∧ l.speed = 0
set_option maxRecDepth 100000 in
set_option maxHeartbeats 8000000 in
theorem unused_0 (l : LinkV) (v1 v2 v3 : Value) (w : World) (hk : l.kind = 0) (h1 : LArg RPoint 2 v1 l.rate w) (h2 : LArg RPoint 2 v2 l.band.lo w) (h3 : LArg RPoint 2 v3 l.band.hi w) : Calls Tryz.prog 66 #[.agg #[.string l.name, .int .i64 l.kind, .int .i64 l.src, .int .i64 l.dst, v1, v2, v3, .int .i64 l.positions, .int .i64 l.speed, .int .i64 l.leak, .int .i64 l.crest, .int .i64 l.num, .int .i64 l.den, .int .i64 l.prime, .int .i64 l.brk, .int .i64 l.backNum, .int .i64 l.backDen, .int .i64 l.delay]] w (RetT (UnusedOk l) w) := by
  have eq0 : (l.kind == 0) = true := by rw [hk]; rfl
  have en2 : (l.kind != 2) = true := by rw [hk]; rfl
  have en1 : (l.kind != 1) = true := by rw [hk]; rfl
  have en5 : (l.kind != 5) = true := by rw [hk]; rfl
  have eq2 : (l.kind == 2) = false := by rw [hk]; rfl
  have en3 : (l.kind != 3) = true := by rw [hk]; rfl
  have eq4 : (l.kind == 4) = false := by rw [hk]; rfl
  have HK := Lib.hid hk
  clear hk
  obtain ⟨a1, n1, rfl, -, -⟩ := h1.slice
  obtain ⟨a2, n2, rfl, -, -⟩ := h2.slice
  obtain ⟨a3, n3, rfl, -, -⟩ := h3.slice
  clear h1 h2 h3
  go_enter Tryz.func66, Tryz.ntmps66
  go_upto_region 1 with fail
  have HR0 := Lib.hid (heap_alloc_new w (.cells #[.string l.name, .int .i64 l.kind, .int .i64 l.src, .int .i64 l.dst, .slice a1 l.rate.length n1, .slice a2 l.band.lo.length n2, .slice a3 l.band.hi.length n3, .int .i64 l.positions, .int .i64 l.speed, .int .i64 l.leak, .int .i64 l.crest, .int .i64 l.num, .int .i64 l.den, .int .i64 l.prime, .int .i64 l.brk, .int .i64 l.backNum, .int .i64 l.backDen, .int .i64 l.delay] 72))
  have HB0 := Lib.hid ((Below.refl w.heap.size w).alloc (Nat.le_refl _) (.cells #[.string l.name, .int .i64 l.kind, .int .i64 l.src, .int .i64 l.dst, .slice a1 l.rate.length n1, .slice a2 l.band.lo.length n2, .slice a3 l.band.hi.length n3, .int .i64 l.positions, .int .i64 l.speed, .int .i64 l.leak, .int .i64 l.crest, .int .i64 l.num, .int .i64 l.den, .int .i64 l.prime, .int .i64 l.brk, .int .i64 l.backNum, .int .i64 l.backDen, .int .i64 l.delay] 72))
  generalize w.alloc (.cells #[.string l.name, .int .i64 l.kind, .int .i64 l.src, .int .i64 l.dst, .slice a1 l.rate.length n1, .slice a2 l.band.lo.length n2, .slice a3 l.band.hi.length n3, .int .i64 l.positions, .int .i64 l.speed, .int .i64 l.leak, .int .i64 l.crest, .int .i64 l.num, .int .i64 l.den, .int .i64 l.prime, .int .i64 l.brk, .int .i64 l.backNum, .int .i64 l.backDen, .int .i64 l.delay] 72) = w0 at *
  have c1 := rowNG HR0.out 1 (.int .i64 l.kind) rfl
  have c4 := rowNG HR0.out 4 (.slice a1 l.rate.length n1) rfl
  have c5 := rowNG HR0.out 5 (.slice a2 l.band.lo.length n2) rfl
  have c6 := rowNG HR0.out 6 (.slice a3 l.band.hi.length n3) rfl
  have c7 := rowNG HR0.out 7 (.int .i64 l.positions) rfl
  have c8 := rowNG HR0.out 8 (.int .i64 l.speed) rfl
  have c9 := rowNG HR0.out 9 (.int .i64 l.leak) rfl
  have c10 := rowNG HR0.out 10 (.int .i64 l.crest) rfl
  have c11 := rowNG HR0.out 11 (.int .i64 l.num) rfl
  have c12 := rowNG HR0.out 12 (.int .i64 l.den) rfl
  have c13 := rowNG HR0.out 13 (.int .i64 l.prime) rfl
  have c14 := rowNG HR0.out 14 (.int .i64 l.brk) rfl
  have c15 := rowNG HR0.out 15 (.int .i64 l.backNum) rfl
  have c16 := rowNG HR0.out 16 (.int .i64 l.backDen) rfl
  go_upto_region 2 with fail
  go_upto_region 4 with fail
  go_upto_region 6 with fail
  cases hT1 : (l.crest != 0)
  rotate_left 1
  · go_wp2_with fail
    go_ret
    exact retT_no HB0.out
  · skip
    go_upto_region 8 with fail
    cases hT2 : (l.num != 0)
    rotate_left 1
    · go_wp2_with fail
      go_ret
      exact retT_no HB0.out
    · skip
      cases hT3 : (l.den != 0)
      rotate_left 1
      · go_wp2_with fail
        go_ret
        exact retT_no HB0.out
      · skip
        go_upto_region 10 with fail
        cases hT4 : (l.prime != 0)
        rotate_left 1
        · go_wp2_with fail
          go_ret
          exact retT_no HB0.out
        · skip
          cases hT5 : (l.brk != 0)
          rotate_left 1
          · go_wp2_with fail
            go_ret
            exact retT_no HB0.out
          · skip
            go_upto_region 12 with fail
            go_wp2_with fail
            go_ret
            exact ⟨_, (fun _ => by intro h0 h2; have hk := HK.out; omega), rfl, HB0.out⟩
set_option maxRecDepth 100000 in
set_option maxHeartbeats 8000000 in
theorem unused_1 (l : LinkV) (v1 v2 v3 : Value) (w : World) (hk : l.kind = 1) (h1 : LArg RPoint 2 v1 l.rate w) (h2 : LArg RPoint 2 v2 l.band.lo w) (h3 : LArg RPoint 2 v3 l.band.hi w) : Calls Tryz.prog 66 #[.agg #[.string l.name, .int .i64 l.kind, .int .i64 l.src, .int .i64 l.dst, v1, v2, v3, .int .i64 l.positions, .int .i64 l.speed, .int .i64 l.leak, .int .i64 l.crest, .int .i64 l.num, .int .i64 l.den, .int .i64 l.prime, .int .i64 l.brk, .int .i64 l.backNum, .int .i64 l.backDen, .int .i64 l.delay]] w (RetT (UnusedOk l) w) := by
  have eq0 : (l.kind == 0) = false := by rw [hk]; rfl
  have en2 : (l.kind != 2) = true := by rw [hk]; rfl
  have en1 : (l.kind != 1) = false := by rw [hk]; rfl
  have en5 : (l.kind != 5) = true := by rw [hk]; rfl
  have eq2 : (l.kind == 2) = false := by rw [hk]; rfl
  have en3 : (l.kind != 3) = true := by rw [hk]; rfl
  have eq4 : (l.kind == 4) = false := by rw [hk]; rfl
  have HK := Lib.hid hk
  clear hk
  obtain ⟨a1, n1, rfl, -, -⟩ := h1.slice
  obtain ⟨a2, n2, rfl, -, -⟩ := h2.slice
  obtain ⟨a3, n3, rfl, -, -⟩ := h3.slice
  clear h1 h2 h3
  go_enter Tryz.func66, Tryz.ntmps66
  go_upto_region 1 with fail
  have HR0 := Lib.hid (heap_alloc_new w (.cells #[.string l.name, .int .i64 l.kind, .int .i64 l.src, .int .i64 l.dst, .slice a1 l.rate.length n1, .slice a2 l.band.lo.length n2, .slice a3 l.band.hi.length n3, .int .i64 l.positions, .int .i64 l.speed, .int .i64 l.leak, .int .i64 l.crest, .int .i64 l.num, .int .i64 l.den, .int .i64 l.prime, .int .i64 l.brk, .int .i64 l.backNum, .int .i64 l.backDen, .int .i64 l.delay] 72))
  have HB0 := Lib.hid ((Below.refl w.heap.size w).alloc (Nat.le_refl _) (.cells #[.string l.name, .int .i64 l.kind, .int .i64 l.src, .int .i64 l.dst, .slice a1 l.rate.length n1, .slice a2 l.band.lo.length n2, .slice a3 l.band.hi.length n3, .int .i64 l.positions, .int .i64 l.speed, .int .i64 l.leak, .int .i64 l.crest, .int .i64 l.num, .int .i64 l.den, .int .i64 l.prime, .int .i64 l.brk, .int .i64 l.backNum, .int .i64 l.backDen, .int .i64 l.delay] 72))
  generalize w.alloc (.cells #[.string l.name, .int .i64 l.kind, .int .i64 l.src, .int .i64 l.dst, .slice a1 l.rate.length n1, .slice a2 l.band.lo.length n2, .slice a3 l.band.hi.length n3, .int .i64 l.positions, .int .i64 l.speed, .int .i64 l.leak, .int .i64 l.crest, .int .i64 l.num, .int .i64 l.den, .int .i64 l.prime, .int .i64 l.brk, .int .i64 l.backNum, .int .i64 l.backDen, .int .i64 l.delay] 72) = w0 at *
  have c1 := rowNG HR0.out 1 (.int .i64 l.kind) rfl
  have c4 := rowNG HR0.out 4 (.slice a1 l.rate.length n1) rfl
  have c5 := rowNG HR0.out 5 (.slice a2 l.band.lo.length n2) rfl
  have c6 := rowNG HR0.out 6 (.slice a3 l.band.hi.length n3) rfl
  have c7 := rowNG HR0.out 7 (.int .i64 l.positions) rfl
  have c8 := rowNG HR0.out 8 (.int .i64 l.speed) rfl
  have c9 := rowNG HR0.out 9 (.int .i64 l.leak) rfl
  have c10 := rowNG HR0.out 10 (.int .i64 l.crest) rfl
  have c11 := rowNG HR0.out 11 (.int .i64 l.num) rfl
  have c12 := rowNG HR0.out 12 (.int .i64 l.den) rfl
  have c13 := rowNG HR0.out 13 (.int .i64 l.prime) rfl
  have c14 := rowNG HR0.out 14 (.int .i64 l.brk) rfl
  have c15 := rowNG HR0.out 15 (.int .i64 l.backNum) rfl
  have c16 := rowNG HR0.out 16 (.int .i64 l.backDen) rfl
  go_upto_region 2 with fail
  by_cases hN6 : l.rate = []
  rotate_left 1
  · have tN6 : (0 : Int) < (l.rate.length : Int) := by have := List.length_pos_iff.2 hN6; omega
    go_wp2_with fail
    go_ret
    exact retT_no HB0.out
  · have tN6 : ¬ (0 : Int) < (l.rate.length : Int) := by rw [hN6]; decide
    by_cases hN7 : l.band.lo = []
    rotate_left 1
    · have tN7 : (0 : Int) < (l.band.lo.length : Int) := by have := List.length_pos_iff.2 hN7; omega
      go_wp2_with fail
      go_ret
      exact retT_no HB0.out
    · have tN7 : ¬ (0 : Int) < (l.band.lo.length : Int) := by rw [hN7]; decide
      by_cases hN8 : l.band.hi = []
      rotate_left 1
      · have tN8 : (0 : Int) < (l.band.hi.length : Int) := by have := List.length_pos_iff.2 hN8; omega
        go_wp2_with fail
        go_ret
        exact retT_no HB0.out
      · have tN8 : ¬ (0 : Int) < (l.band.hi.length : Int) := by rw [hN8]; decide
        cases hT9 : (l.leak != 0)
        rotate_left 1
        · go_wp2_with fail
          go_ret
          exact retT_no HB0.out
        · skip
          go_upto_region 4 with fail
          cases hT10 : (l.positions != 0)
          rotate_left 1
          · go_wp2_with fail
            go_ret
            exact retT_no HB0.out
          · skip
            cases hT11 : (l.speed != 0)
            rotate_left 1
            · go_wp2_with fail
              go_ret
              exact retT_no HB0.out
            · skip
              have HP1 : Hid ((l.positions != 0) = false) := Lib.hid hT10
              have HP2 : Hid ((l.speed != 0) = false) := Lib.hid hT11
              go_upto_region 6 with fail
              go_upto_region 8 with fail
              go_upto_region 10 with fail
              cases hT12 : (l.prime != 0)
              rotate_left 1
              · go_wp2_with fail
                go_ret
                exact retT_no HB0.out
              · skip
                cases hT13 : (l.brk != 0)
                rotate_left 1
                · go_wp2_with fail
                  go_ret
                  exact retT_no HB0.out
                · skip
                  go_upto_region 12 with fail
                  cases hX1 : (l.backNum == 0)
                  · go_wp2_with fail
                    go_ret
                    exact retT_no HB0.out
                  · go_wp2_with fail
                    go_ret
                    exact ⟨_, (fun _ => by intro _ _; exact ⟨by simpa using HP1.out, by simpa using HP2.out⟩), rfl, HB0.out⟩
set_option maxRecDepth 100000 in
set_option maxHeartbeats 8000000 in
theorem unused_2 (l : LinkV) (v1 v2 v3 : Value) (w : World) (hk : l.kind = 2) (h1 : LArg RPoint 2 v1 l.rate w) (h2 : LArg RPoint 2 v2 l.band.lo w) (h3 : LArg RPoint 2 v3 l.band.hi w) : Calls Tryz.prog 66 #[.agg #[.string l.name, .int .i64 l.kind, .int .i64 l.src, .int .i64 l.dst, v1, v2, v3, .int .i64 l.positions, .int .i64 l.speed, .int .i64 l.leak, .int .i64 l.crest, .int .i64 l.num, .int .i64 l.den, .int .i64 l.prime, .int .i64 l.brk, .int .i64 l.backNum, .int .i64 l.backDen, .int .i64 l.delay]] w (RetT (UnusedOk l) w) := by
  have eq0 : (l.kind == 0) = false := by rw [hk]; rfl
  have en2 : (l.kind != 2) = false := by rw [hk]; rfl
  have en1 : (l.kind != 1) = true := by rw [hk]; rfl
  have en5 : (l.kind != 5) = true := by rw [hk]; rfl
  have eq2 : (l.kind == 2) = true := by rw [hk]; rfl
  have en3 : (l.kind != 3) = true := by rw [hk]; rfl
  have eq4 : (l.kind == 4) = false := by rw [hk]; rfl
  have HK := Lib.hid hk
  clear hk
  obtain ⟨a1, n1, rfl, -, -⟩ := h1.slice
  obtain ⟨a2, n2, rfl, -, -⟩ := h2.slice
  obtain ⟨a3, n3, rfl, -, -⟩ := h3.slice
  clear h1 h2 h3
  go_enter Tryz.func66, Tryz.ntmps66
  go_upto_region 1 with fail
  have HR0 := Lib.hid (heap_alloc_new w (.cells #[.string l.name, .int .i64 l.kind, .int .i64 l.src, .int .i64 l.dst, .slice a1 l.rate.length n1, .slice a2 l.band.lo.length n2, .slice a3 l.band.hi.length n3, .int .i64 l.positions, .int .i64 l.speed, .int .i64 l.leak, .int .i64 l.crest, .int .i64 l.num, .int .i64 l.den, .int .i64 l.prime, .int .i64 l.brk, .int .i64 l.backNum, .int .i64 l.backDen, .int .i64 l.delay] 72))
  have HB0 := Lib.hid ((Below.refl w.heap.size w).alloc (Nat.le_refl _) (.cells #[.string l.name, .int .i64 l.kind, .int .i64 l.src, .int .i64 l.dst, .slice a1 l.rate.length n1, .slice a2 l.band.lo.length n2, .slice a3 l.band.hi.length n3, .int .i64 l.positions, .int .i64 l.speed, .int .i64 l.leak, .int .i64 l.crest, .int .i64 l.num, .int .i64 l.den, .int .i64 l.prime, .int .i64 l.brk, .int .i64 l.backNum, .int .i64 l.backDen, .int .i64 l.delay] 72))
  generalize w.alloc (.cells #[.string l.name, .int .i64 l.kind, .int .i64 l.src, .int .i64 l.dst, .slice a1 l.rate.length n1, .slice a2 l.band.lo.length n2, .slice a3 l.band.hi.length n3, .int .i64 l.positions, .int .i64 l.speed, .int .i64 l.leak, .int .i64 l.crest, .int .i64 l.num, .int .i64 l.den, .int .i64 l.prime, .int .i64 l.brk, .int .i64 l.backNum, .int .i64 l.backDen, .int .i64 l.delay] 72) = w0 at *
  have c1 := rowNG HR0.out 1 (.int .i64 l.kind) rfl
  have c4 := rowNG HR0.out 4 (.slice a1 l.rate.length n1) rfl
  have c5 := rowNG HR0.out 5 (.slice a2 l.band.lo.length n2) rfl
  have c6 := rowNG HR0.out 6 (.slice a3 l.band.hi.length n3) rfl
  have c7 := rowNG HR0.out 7 (.int .i64 l.positions) rfl
  have c8 := rowNG HR0.out 8 (.int .i64 l.speed) rfl
  have c9 := rowNG HR0.out 9 (.int .i64 l.leak) rfl
  have c10 := rowNG HR0.out 10 (.int .i64 l.crest) rfl
  have c11 := rowNG HR0.out 11 (.int .i64 l.num) rfl
  have c12 := rowNG HR0.out 12 (.int .i64 l.den) rfl
  have c13 := rowNG HR0.out 13 (.int .i64 l.prime) rfl
  have c14 := rowNG HR0.out 14 (.int .i64 l.brk) rfl
  have c15 := rowNG HR0.out 15 (.int .i64 l.backNum) rfl
  have c16 := rowNG HR0.out 16 (.int .i64 l.backDen) rfl
  go_upto_region 2 with fail
  by_cases hN14 : l.rate = []
  rotate_left 1
  · have tN14 : (0 : Int) < (l.rate.length : Int) := by have := List.length_pos_iff.2 hN14; omega
    go_wp2_with fail
    go_ret
    exact retT_no HB0.out
  · have tN14 : ¬ (0 : Int) < (l.rate.length : Int) := by rw [hN14]; decide
    by_cases hN15 : l.band.lo = []
    rotate_left 1
    · have tN15 : (0 : Int) < (l.band.lo.length : Int) := by have := List.length_pos_iff.2 hN15; omega
      go_wp2_with fail
      go_ret
      exact retT_no HB0.out
    · have tN15 : ¬ (0 : Int) < (l.band.lo.length : Int) := by rw [hN15]; decide
      by_cases hN16 : l.band.hi = []
      rotate_left 1
      · have tN16 : (0 : Int) < (l.band.hi.length : Int) := by have := List.length_pos_iff.2 hN16; omega
        go_wp2_with fail
        go_ret
        exact retT_no HB0.out
      · have tN16 : ¬ (0 : Int) < (l.band.hi.length : Int) := by rw [hN16]; decide
        cases hT17 : (l.leak != 0)
        rotate_left 1
        · go_wp2_with fail
          go_ret
          exact retT_no HB0.out
        · skip
          go_upto_region 4 with fail
          go_upto_region 6 with fail
          cases hT18 : (l.crest != 0)
          rotate_left 1
          · go_wp2_with fail
            go_ret
            exact retT_no HB0.out
          · skip
            go_upto_region 8 with fail
            cases hT19 : (l.den != 0)
            rotate_left 1
            · go_wp2_with fail
              go_ret
              exact retT_no HB0.out
            · skip
              go_upto_region 10 with fail
              cases hT20 : (l.prime != 0)
              rotate_left 1
              · go_wp2_with fail
                go_ret
                exact retT_no HB0.out
              · skip
                cases hT21 : (l.brk != 0)
                rotate_left 1
                · go_wp2_with fail
                  go_ret
                  exact retT_no HB0.out
                · skip
                  go_upto_region 12 with fail
                  cases hX1 : (l.backNum == 0)
                  · go_wp2_with fail
                    go_ret
                    exact retT_no HB0.out
                  · go_wp2_with fail
                    go_ret
                    exact ⟨_, (fun _ => by intro h0 h2; have hk := HK.out; omega), rfl, HB0.out⟩
set_option maxRecDepth 100000 in
set_option maxHeartbeats 8000000 in
theorem unused_3 (l : LinkV) (v1 v2 v3 : Value) (w : World) (hk : l.kind = 3) (h1 : LArg RPoint 2 v1 l.rate w) (h2 : LArg RPoint 2 v2 l.band.lo w) (h3 : LArg RPoint 2 v3 l.band.hi w) : Calls Tryz.prog 66 #[.agg #[.string l.name, .int .i64 l.kind, .int .i64 l.src, .int .i64 l.dst, v1, v2, v3, .int .i64 l.positions, .int .i64 l.speed, .int .i64 l.leak, .int .i64 l.crest, .int .i64 l.num, .int .i64 l.den, .int .i64 l.prime, .int .i64 l.brk, .int .i64 l.backNum, .int .i64 l.backDen, .int .i64 l.delay]] w (RetT (UnusedOk l) w) := by
  have eq0 : (l.kind == 0) = false := by rw [hk]; rfl
  have en2 : (l.kind != 2) = true := by rw [hk]; rfl
  have en1 : (l.kind != 1) = true := by rw [hk]; rfl
  have en5 : (l.kind != 5) = true := by rw [hk]; rfl
  have eq2 : (l.kind == 2) = false := by rw [hk]; rfl
  have en3 : (l.kind != 3) = false := by rw [hk]; rfl
  have eq4 : (l.kind == 4) = false := by rw [hk]; rfl
  have HK := Lib.hid hk
  clear hk
  obtain ⟨a1, n1, rfl, -, -⟩ := h1.slice
  obtain ⟨a2, n2, rfl, -, -⟩ := h2.slice
  obtain ⟨a3, n3, rfl, -, -⟩ := h3.slice
  clear h1 h2 h3
  go_enter Tryz.func66, Tryz.ntmps66
  go_upto_region 1 with fail
  have HR0 := Lib.hid (heap_alloc_new w (.cells #[.string l.name, .int .i64 l.kind, .int .i64 l.src, .int .i64 l.dst, .slice a1 l.rate.length n1, .slice a2 l.band.lo.length n2, .slice a3 l.band.hi.length n3, .int .i64 l.positions, .int .i64 l.speed, .int .i64 l.leak, .int .i64 l.crest, .int .i64 l.num, .int .i64 l.den, .int .i64 l.prime, .int .i64 l.brk, .int .i64 l.backNum, .int .i64 l.backDen, .int .i64 l.delay] 72))
  have HB0 := Lib.hid ((Below.refl w.heap.size w).alloc (Nat.le_refl _) (.cells #[.string l.name, .int .i64 l.kind, .int .i64 l.src, .int .i64 l.dst, .slice a1 l.rate.length n1, .slice a2 l.band.lo.length n2, .slice a3 l.band.hi.length n3, .int .i64 l.positions, .int .i64 l.speed, .int .i64 l.leak, .int .i64 l.crest, .int .i64 l.num, .int .i64 l.den, .int .i64 l.prime, .int .i64 l.brk, .int .i64 l.backNum, .int .i64 l.backDen, .int .i64 l.delay] 72))
  generalize w.alloc (.cells #[.string l.name, .int .i64 l.kind, .int .i64 l.src, .int .i64 l.dst, .slice a1 l.rate.length n1, .slice a2 l.band.lo.length n2, .slice a3 l.band.hi.length n3, .int .i64 l.positions, .int .i64 l.speed, .int .i64 l.leak, .int .i64 l.crest, .int .i64 l.num, .int .i64 l.den, .int .i64 l.prime, .int .i64 l.brk, .int .i64 l.backNum, .int .i64 l.backDen, .int .i64 l.delay] 72) = w0 at *
  have c1 := rowNG HR0.out 1 (.int .i64 l.kind) rfl
  have c4 := rowNG HR0.out 4 (.slice a1 l.rate.length n1) rfl
  have c5 := rowNG HR0.out 5 (.slice a2 l.band.lo.length n2) rfl
  have c6 := rowNG HR0.out 6 (.slice a3 l.band.hi.length n3) rfl
  have c7 := rowNG HR0.out 7 (.int .i64 l.positions) rfl
  have c8 := rowNG HR0.out 8 (.int .i64 l.speed) rfl
  have c9 := rowNG HR0.out 9 (.int .i64 l.leak) rfl
  have c10 := rowNG HR0.out 10 (.int .i64 l.crest) rfl
  have c11 := rowNG HR0.out 11 (.int .i64 l.num) rfl
  have c12 := rowNG HR0.out 12 (.int .i64 l.den) rfl
  have c13 := rowNG HR0.out 13 (.int .i64 l.prime) rfl
  have c14 := rowNG HR0.out 14 (.int .i64 l.brk) rfl
  have c15 := rowNG HR0.out 15 (.int .i64 l.backNum) rfl
  have c16 := rowNG HR0.out 16 (.int .i64 l.backDen) rfl
  go_upto_region 2 with fail
  by_cases hN22 : l.rate = []
  rotate_left 1
  · have tN22 : (0 : Int) < (l.rate.length : Int) := by have := List.length_pos_iff.2 hN22; omega
    go_wp2_with fail
    go_ret
    exact retT_no HB0.out
  · have tN22 : ¬ (0 : Int) < (l.rate.length : Int) := by rw [hN22]; decide
    by_cases hN23 : l.band.lo = []
    rotate_left 1
    · have tN23 : (0 : Int) < (l.band.lo.length : Int) := by have := List.length_pos_iff.2 hN23; omega
      go_wp2_with fail
      go_ret
      exact retT_no HB0.out
    · have tN23 : ¬ (0 : Int) < (l.band.lo.length : Int) := by rw [hN23]; decide
      by_cases hN24 : l.band.hi = []
      rotate_left 1
      · have tN24 : (0 : Int) < (l.band.hi.length : Int) := by have := List.length_pos_iff.2 hN24; omega
        go_wp2_with fail
        go_ret
        exact retT_no HB0.out
      · have tN24 : ¬ (0 : Int) < (l.band.hi.length : Int) := by rw [hN24]; decide
        cases hT25 : (l.leak != 0)
        rotate_left 1
        · go_wp2_with fail
          go_ret
          exact retT_no HB0.out
        · skip
          go_upto_region 4 with fail
          cases hT26 : (l.positions != 0)
          rotate_left 1
          · go_wp2_with fail
            go_ret
            exact retT_no HB0.out
          · skip
            cases hT27 : (l.speed != 0)
            rotate_left 1
            · go_wp2_with fail
              go_ret
              exact retT_no HB0.out
            · skip
              have HP1 : Hid ((l.positions != 0) = false) := Lib.hid hT26
              have HP2 : Hid ((l.speed != 0) = false) := Lib.hid hT27
              go_upto_region 6 with fail
              cases hT28 : (l.crest != 0)
              rotate_left 1
              · go_wp2_with fail
                go_ret
                exact retT_no HB0.out
              · skip
                go_upto_region 8 with fail
                go_upto_region 10 with fail
                go_upto_region 12 with fail
                cases hX1 : (l.backNum == 0)
                · go_wp2_with fail
                  go_ret
                  exact retT_no HB0.out
                · go_wp2_with fail
                  go_ret
                  exact ⟨_, (fun _ => by intro _ _; exact ⟨by simpa using HP1.out, by simpa using HP2.out⟩), rfl, HB0.out⟩
set_option maxRecDepth 100000 in
set_option maxHeartbeats 8000000 in
theorem unused_4 (l : LinkV) (v1 v2 v3 : Value) (w : World) (hk : l.kind = 4) (h1 : LArg RPoint 2 v1 l.rate w) (h2 : LArg RPoint 2 v2 l.band.lo w) (h3 : LArg RPoint 2 v3 l.band.hi w) : Calls Tryz.prog 66 #[.agg #[.string l.name, .int .i64 l.kind, .int .i64 l.src, .int .i64 l.dst, v1, v2, v3, .int .i64 l.positions, .int .i64 l.speed, .int .i64 l.leak, .int .i64 l.crest, .int .i64 l.num, .int .i64 l.den, .int .i64 l.prime, .int .i64 l.brk, .int .i64 l.backNum, .int .i64 l.backDen, .int .i64 l.delay]] w (RetT (UnusedOk l) w) := by
  have eq0 : (l.kind == 0) = false := by rw [hk]; rfl
  have en2 : (l.kind != 2) = true := by rw [hk]; rfl
  have en1 : (l.kind != 1) = true := by rw [hk]; rfl
  have en5 : (l.kind != 5) = true := by rw [hk]; rfl
  have eq2 : (l.kind == 2) = false := by rw [hk]; rfl
  have en3 : (l.kind != 3) = true := by rw [hk]; rfl
  have eq4 : (l.kind == 4) = true := by rw [hk]; rfl
  have HK := Lib.hid hk
  clear hk
  obtain ⟨a1, n1, rfl, -, -⟩ := h1.slice
  obtain ⟨a2, n2, rfl, -, -⟩ := h2.slice
  obtain ⟨a3, n3, rfl, -, -⟩ := h3.slice
  clear h1 h2 h3
  go_enter Tryz.func66, Tryz.ntmps66
  go_upto_region 1 with fail
  have HR0 := Lib.hid (heap_alloc_new w (.cells #[.string l.name, .int .i64 l.kind, .int .i64 l.src, .int .i64 l.dst, .slice a1 l.rate.length n1, .slice a2 l.band.lo.length n2, .slice a3 l.band.hi.length n3, .int .i64 l.positions, .int .i64 l.speed, .int .i64 l.leak, .int .i64 l.crest, .int .i64 l.num, .int .i64 l.den, .int .i64 l.prime, .int .i64 l.brk, .int .i64 l.backNum, .int .i64 l.backDen, .int .i64 l.delay] 72))
  have HB0 := Lib.hid ((Below.refl w.heap.size w).alloc (Nat.le_refl _) (.cells #[.string l.name, .int .i64 l.kind, .int .i64 l.src, .int .i64 l.dst, .slice a1 l.rate.length n1, .slice a2 l.band.lo.length n2, .slice a3 l.band.hi.length n3, .int .i64 l.positions, .int .i64 l.speed, .int .i64 l.leak, .int .i64 l.crest, .int .i64 l.num, .int .i64 l.den, .int .i64 l.prime, .int .i64 l.brk, .int .i64 l.backNum, .int .i64 l.backDen, .int .i64 l.delay] 72))
  generalize w.alloc (.cells #[.string l.name, .int .i64 l.kind, .int .i64 l.src, .int .i64 l.dst, .slice a1 l.rate.length n1, .slice a2 l.band.lo.length n2, .slice a3 l.band.hi.length n3, .int .i64 l.positions, .int .i64 l.speed, .int .i64 l.leak, .int .i64 l.crest, .int .i64 l.num, .int .i64 l.den, .int .i64 l.prime, .int .i64 l.brk, .int .i64 l.backNum, .int .i64 l.backDen, .int .i64 l.delay] 72) = w0 at *
  have c1 := rowNG HR0.out 1 (.int .i64 l.kind) rfl
  have c4 := rowNG HR0.out 4 (.slice a1 l.rate.length n1) rfl
  have c5 := rowNG HR0.out 5 (.slice a2 l.band.lo.length n2) rfl
  have c6 := rowNG HR0.out 6 (.slice a3 l.band.hi.length n3) rfl
  have c7 := rowNG HR0.out 7 (.int .i64 l.positions) rfl
  have c8 := rowNG HR0.out 8 (.int .i64 l.speed) rfl
  have c9 := rowNG HR0.out 9 (.int .i64 l.leak) rfl
  have c10 := rowNG HR0.out 10 (.int .i64 l.crest) rfl
  have c11 := rowNG HR0.out 11 (.int .i64 l.num) rfl
  have c12 := rowNG HR0.out 12 (.int .i64 l.den) rfl
  have c13 := rowNG HR0.out 13 (.int .i64 l.prime) rfl
  have c14 := rowNG HR0.out 14 (.int .i64 l.brk) rfl
  have c15 := rowNG HR0.out 15 (.int .i64 l.backNum) rfl
  have c16 := rowNG HR0.out 16 (.int .i64 l.backDen) rfl
  go_upto_region 2 with fail
  by_cases hN29 : l.rate = []
  rotate_left 1
  · have tN29 : (0 : Int) < (l.rate.length : Int) := by have := List.length_pos_iff.2 hN29; omega
    go_wp2_with fail
    go_ret
    exact retT_no HB0.out
  · have tN29 : ¬ (0 : Int) < (l.rate.length : Int) := by rw [hN29]; decide
    by_cases hN30 : l.band.lo = []
    rotate_left 1
    · have tN30 : (0 : Int) < (l.band.lo.length : Int) := by have := List.length_pos_iff.2 hN30; omega
      go_wp2_with fail
      go_ret
      exact retT_no HB0.out
    · have tN30 : ¬ (0 : Int) < (l.band.lo.length : Int) := by rw [hN30]; decide
      by_cases hN31 : l.band.hi = []
      rotate_left 1
      · have tN31 : (0 : Int) < (l.band.hi.length : Int) := by have := List.length_pos_iff.2 hN31; omega
        go_wp2_with fail
        go_ret
        exact retT_no HB0.out
      · have tN31 : ¬ (0 : Int) < (l.band.hi.length : Int) := by rw [hN31]; decide
        cases hT32 : (l.leak != 0)
        rotate_left 1
        · go_wp2_with fail
          go_ret
          exact retT_no HB0.out
        · skip
          go_upto_region 4 with fail
          cases hT33 : (l.positions != 0)
          rotate_left 1
          · go_wp2_with fail
            go_ret
            exact retT_no HB0.out
          · skip
            cases hT34 : (l.speed != 0)
            rotate_left 1
            · go_wp2_with fail
              go_ret
              exact retT_no HB0.out
            · skip
              have HP1 : Hid ((l.positions != 0) = false) := Lib.hid hT33
              have HP2 : Hid ((l.speed != 0) = false) := Lib.hid hT34
              go_upto_region 6 with fail
              cases hT35 : (l.crest != 0)
              rotate_left 1
              · go_wp2_with fail
                go_ret
                exact retT_no HB0.out
              · skip
                go_upto_region 8 with fail
                go_upto_region 10 with fail
                cases hT36 : (l.prime != 0)
                rotate_left 1
                · go_wp2_with fail
                  go_ret
                  exact retT_no HB0.out
                · skip
                  cases hT37 : (l.brk != 0)
                  rotate_left 1
                  · go_wp2_with fail
                    go_ret
                    exact retT_no HB0.out
                  · skip
                    go_upto_region 12 with fail
                    go_wp2_with fail
                    go_ret
                    exact ⟨_, (fun _ => by intro _ _; exact ⟨by simpa using HP1.out, by simpa using HP2.out⟩), rfl, HB0.out⟩
set_option maxRecDepth 100000 in
set_option maxHeartbeats 8000000 in
theorem unused_5 (l : LinkV) (v1 v2 v3 : Value) (w : World) (hk : l.kind = 5) (h1 : LArg RPoint 2 v1 l.rate w) (h2 : LArg RPoint 2 v2 l.band.lo w) (h3 : LArg RPoint 2 v3 l.band.hi w) : Calls Tryz.prog 66 #[.agg #[.string l.name, .int .i64 l.kind, .int .i64 l.src, .int .i64 l.dst, v1, v2, v3, .int .i64 l.positions, .int .i64 l.speed, .int .i64 l.leak, .int .i64 l.crest, .int .i64 l.num, .int .i64 l.den, .int .i64 l.prime, .int .i64 l.brk, .int .i64 l.backNum, .int .i64 l.backDen, .int .i64 l.delay]] w (RetT (UnusedOk l) w) := by
  have eq0 : (l.kind == 0) = false := by rw [hk]; rfl
  have en2 : (l.kind != 2) = true := by rw [hk]; rfl
  have en1 : (l.kind != 1) = true := by rw [hk]; rfl
  have en5 : (l.kind != 5) = false := by rw [hk]; rfl
  have eq2 : (l.kind == 2) = false := by rw [hk]; rfl
  have en3 : (l.kind != 3) = true := by rw [hk]; rfl
  have eq4 : (l.kind == 4) = false := by rw [hk]; rfl
  have HK := Lib.hid hk
  clear hk
  obtain ⟨a1, n1, rfl, -, -⟩ := h1.slice
  obtain ⟨a2, n2, rfl, -, -⟩ := h2.slice
  obtain ⟨a3, n3, rfl, -, -⟩ := h3.slice
  clear h1 h2 h3
  go_enter Tryz.func66, Tryz.ntmps66
  go_upto_region 1 with fail
  have HR0 := Lib.hid (heap_alloc_new w (.cells #[.string l.name, .int .i64 l.kind, .int .i64 l.src, .int .i64 l.dst, .slice a1 l.rate.length n1, .slice a2 l.band.lo.length n2, .slice a3 l.band.hi.length n3, .int .i64 l.positions, .int .i64 l.speed, .int .i64 l.leak, .int .i64 l.crest, .int .i64 l.num, .int .i64 l.den, .int .i64 l.prime, .int .i64 l.brk, .int .i64 l.backNum, .int .i64 l.backDen, .int .i64 l.delay] 72))
  have HB0 := Lib.hid ((Below.refl w.heap.size w).alloc (Nat.le_refl _) (.cells #[.string l.name, .int .i64 l.kind, .int .i64 l.src, .int .i64 l.dst, .slice a1 l.rate.length n1, .slice a2 l.band.lo.length n2, .slice a3 l.band.hi.length n3, .int .i64 l.positions, .int .i64 l.speed, .int .i64 l.leak, .int .i64 l.crest, .int .i64 l.num, .int .i64 l.den, .int .i64 l.prime, .int .i64 l.brk, .int .i64 l.backNum, .int .i64 l.backDen, .int .i64 l.delay] 72))
  generalize w.alloc (.cells #[.string l.name, .int .i64 l.kind, .int .i64 l.src, .int .i64 l.dst, .slice a1 l.rate.length n1, .slice a2 l.band.lo.length n2, .slice a3 l.band.hi.length n3, .int .i64 l.positions, .int .i64 l.speed, .int .i64 l.leak, .int .i64 l.crest, .int .i64 l.num, .int .i64 l.den, .int .i64 l.prime, .int .i64 l.brk, .int .i64 l.backNum, .int .i64 l.backDen, .int .i64 l.delay] 72) = w0 at *
  have c1 := rowNG HR0.out 1 (.int .i64 l.kind) rfl
  have c4 := rowNG HR0.out 4 (.slice a1 l.rate.length n1) rfl
  have c5 := rowNG HR0.out 5 (.slice a2 l.band.lo.length n2) rfl
  have c6 := rowNG HR0.out 6 (.slice a3 l.band.hi.length n3) rfl
  have c7 := rowNG HR0.out 7 (.int .i64 l.positions) rfl
  have c8 := rowNG HR0.out 8 (.int .i64 l.speed) rfl
  have c9 := rowNG HR0.out 9 (.int .i64 l.leak) rfl
  have c10 := rowNG HR0.out 10 (.int .i64 l.crest) rfl
  have c11 := rowNG HR0.out 11 (.int .i64 l.num) rfl
  have c12 := rowNG HR0.out 12 (.int .i64 l.den) rfl
  have c13 := rowNG HR0.out 13 (.int .i64 l.prime) rfl
  have c14 := rowNG HR0.out 14 (.int .i64 l.brk) rfl
  have c15 := rowNG HR0.out 15 (.int .i64 l.backNum) rfl
  have c16 := rowNG HR0.out 16 (.int .i64 l.backDen) rfl
  go_upto_region 2 with fail
  by_cases hN38 : l.rate = []
  rotate_left 1
  · have tN38 : (0 : Int) < (l.rate.length : Int) := by have := List.length_pos_iff.2 hN38; omega
    go_wp2_with fail
    go_ret
    exact retT_no HB0.out
  · have tN38 : ¬ (0 : Int) < (l.rate.length : Int) := by rw [hN38]; decide
    by_cases hN39 : l.band.lo = []
    rotate_left 1
    · have tN39 : (0 : Int) < (l.band.lo.length : Int) := by have := List.length_pos_iff.2 hN39; omega
      go_wp2_with fail
      go_ret
      exact retT_no HB0.out
    · have tN39 : ¬ (0 : Int) < (l.band.lo.length : Int) := by rw [hN39]; decide
      by_cases hN40 : l.band.hi = []
      rotate_left 1
      · have tN40 : (0 : Int) < (l.band.hi.length : Int) := by have := List.length_pos_iff.2 hN40; omega
        go_wp2_with fail
        go_ret
        exact retT_no HB0.out
      · have tN40 : ¬ (0 : Int) < (l.band.hi.length : Int) := by rw [hN40]; decide
        cases hT41 : (l.leak != 0)
        rotate_left 1
        · go_wp2_with fail
          go_ret
          exact retT_no HB0.out
        · skip
          go_upto_region 4 with fail
          cases hT42 : (l.positions != 0)
          rotate_left 1
          · go_wp2_with fail
            go_ret
            exact retT_no HB0.out
          · skip
            cases hT43 : (l.speed != 0)
            rotate_left 1
            · go_wp2_with fail
              go_ret
              exact retT_no HB0.out
            · skip
              have HP1 : Hid ((l.positions != 0) = false) := Lib.hid hT42
              have HP2 : Hid ((l.speed != 0) = false) := Lib.hid hT43
              go_upto_region 6 with fail
              go_upto_region 8 with fail
              go_upto_region 10 with fail
              cases hT44 : (l.prime != 0)
              rotate_left 1
              · go_wp2_with fail
                go_ret
                exact retT_no HB0.out
              · skip
                cases hT45 : (l.brk != 0)
                rotate_left 1
                · go_wp2_with fail
                  go_ret
                  exact retT_no HB0.out
                · skip
                  go_upto_region 12 with fail
                  cases hX1 : (l.backNum == 0)
                  · go_wp2_with fail
                    go_ret
                    exact retT_no HB0.out
                  · go_wp2_with fail
                    go_ret
                    exact ⟨_, (fun _ => by intro _ _; exact ⟨by simpa using HP1.out, by simpa using HP2.out⟩), rfl, HB0.out⟩
theorem unused_any (l : LinkV) (v1 v2 v3 : Value) (w : World) (hk : 0 ≤ l.kind ∧ l.kind ≤ 5) (h1 : LArg RPoint 2 v1 l.rate w) (h2 : LArg RPoint 2 v2 l.band.lo w) (h3 : LArg RPoint 2 v3 l.band.hi w) : Calls Tryz.prog 66 #[.agg #[.string l.name, .int .i64 l.kind, .int .i64 l.src, .int .i64 l.dst, v1, v2, v3, .int .i64 l.positions, .int .i64 l.speed, .int .i64 l.leak, .int .i64 l.crest, .int .i64 l.num, .int .i64 l.den, .int .i64 l.prime, .int .i64 l.brk, .int .i64 l.backNum, .int .i64 l.backDen, .int .i64 l.delay]] w (RetT (UnusedOk l) w) := by
  have h5 : l.kind = 0 ∨ l.kind = 1 ∨ l.kind = 2 ∨ l.kind = 3 ∨ l.kind = 4 ∨ l.kind = 5 := by omega
  rcases h5 with h | h | h | h | h | h
  · exact unused_0 l v1 v2 v3 w h h1 h2 h3
  · exact unused_1 l v1 v2 v3 w h h1 h2 h3
  · exact unused_2 l v1 v2 v3 w h h1 h2 h3
  · exact unused_3 l v1 v2 v3 w h h1 h2 h3
  · exact unused_4 l v1 v2 v3 w h h1 h2 h3
  · exact unused_5 l v1 v2 v3 w h h1 h2 h3
end Go.Proofs.YtepidpegoihllaaGreatDoor

