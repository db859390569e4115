/- basin.rightFields. -/
import Derived.Test.YtepidpegoihllaaGreatDoorBCtx
namespace Go.Proofs.YtepidpegoihllaaGreatDoor
open Go.RowKit
def FieldsOk (l : LinkV) : Prop :=
  (l.kind = 0 → rightC l.rate = true ∧ rightC l.band.lo = true ∧ rightC l.band.hi = true ∧ underC l.band.lo l.rate = true ∧ underC l.rate l.band.hi = true ∧ (0 ≤ l.positions ∧ l.positions ≤ 64) ∧ (0 ≤ l.speed ∧ l.speed ≤ l.positions) ∧ (0 ≤ l.leak ∧ l.leak ≤ 1125899906842624) ∧
    (0 ≤ l.backNum ∧ l.backNum ≤ 1125899906842624 ∧ 0 ≤ l.backDen ∧ l.backDen ≤ 1125899906842624 ∧ (l.backDen = 0 → l.backNum = 0))) ∧
  (l.kind = 1 ∨ l.kind = 5 → (0 ≤ l.crest ∧ l.crest ≤ 1125899906842624) ∧ (0 ≤ l.num ∧ l.num ≤ 1125899906842624) ∧ (1 ≤ l.den ∧ l.den ≤ 1125899906842624)) ∧
  (l.kind = 2 → (0 ≤ l.num ∧ l.num ≤ 1125899906842624) ∧ (1 ≤ l.positions ∧ l.positions ≤ 64) ∧ (0 ≤ l.speed ∧ l.speed ≤ l.positions)) ∧
  (l.kind = 3 → (0 ≤ l.num ∧ l.num ≤ 1125899906842624) ∧ (1 ≤ l.den ∧ l.den ≤ 1125899906842624)) ∧
  (l.kind = 4 → (0 ≤ l.num ∧ l.num ≤ 1125899906842624) ∧ (1 ≤ l.den ∧ l.den ≤ 1125899906842624) ∧ (0 ≤ l.backNum ∧ l.backNum ≤ 1125899906842624 ∧ 0 ≤ l.backDen ∧ l.backDen ≤ 1125899906842624 ∧ (l.backDen = 0 → l.backNum = 0)) ∧ l.dst ≠ -1)
set_option maxRecDepth 100000 in
set_option maxHeartbeats 8000000 in
theorem fields_1 (l : LinkV) (v1 v2 v3 : Value) (w : World) (hk : l.kind = 1) : Calls Tryz.prog 65 #[.agg #[.string l.name, .int .i64 l.kind, .int .i64 l.src, .int .i64 l.dst, v1, v2, v3, .int .i64 l.positions, .int .i64 l.speed, .int .i64 l.leak, .int .i64 l.crest, .int .i64 l.num, .int .i64 l.den, .int .i64 l.prime, .int .i64 l.brk, .int .i64 l.backNum, .int .i64 l.backDen, .int .i64 l.delay]] w (RetT (FieldsOk l) w) := by
  have k0 : (l.kind == 0) = false := by rw [hk]; rfl
  have k1 : (l.kind == 1) = true := by rw [hk]; rfl
  have HK := Lib.hid hk
  clear hk
  go_enter Tryz.func65, Tryz.ntmps65
  go_upto_region 1 with fail
  have HR0 := Lib.hid (heap_alloc_new w (.cells #[.string l.name, .int .i64 l.kind, .int .i64 l.src, .int .i64 l.dst, v1, v2, v3, .int .i64 l.positions, .int .i64 l.speed, .int .i64 l.leak, .int .i64 l.crest, .int .i64 l.num, .int .i64 l.den, .int .i64 l.prime, .int .i64 l.brk, .int .i64 l.backNum, .int .i64 l.backDen, .int .i64 l.delay] 72))
  have HB0 := Lib.hid ((Below.refl w.heap.size w).alloc (Nat.le_refl _) (.cells #[.string l.name, .int .i64 l.kind, .int .i64 l.src, .int .i64 l.dst, v1, v2, v3, .int .i64 l.positions, .int .i64 l.speed, .int .i64 l.leak, .int .i64 l.crest, .int .i64 l.num, .int .i64 l.den, .int .i64 l.prime, .int .i64 l.brk, .int .i64 l.backNum, .int .i64 l.backDen, .int .i64 l.delay] 72))
  generalize w.alloc (.cells #[.string l.name, .int .i64 l.kind, .int .i64 l.src, .int .i64 l.dst, v1, v2, v3, .int .i64 l.positions, .int .i64 l.speed, .int .i64 l.leak, .int .i64 l.crest, .int .i64 l.num, .int .i64 l.den, .int .i64 l.prime, .int .i64 l.brk, .int .i64 l.backNum, .int .i64 l.backDen, .int .i64 l.delay] 72) = w0 at *
  have c1 := rowNG HR0.out 1 (.int .i64 l.kind) rfl
  have c10 := rowNG HR0.out 10 (.int .i64 l.crest) rfl
  have c11 := rowNG HR0.out 11 (.int .i64 l.num) rfl
  have c12 := rowNG HR0.out 12 (.int .i64 l.den) rfl
  go_wp2_with fail
  refine (volume_any l.crest _).mono ?_
  rintro e wq ⟨rfl, rfl⟩
  cases hB3 : volB l.crest
  · go_wp2_with fail
    go_ret
    exact retT_no HB0.out
  · have HB_3 := Lib.hid hB3
    clear hB3
    go_wp2_with fail
    refine (volume_any l.num _).mono ?_
    rintro e wq ⟨rfl, rfl⟩
    cases hB2 : volB l.num
    · go_wp2_with fail
      go_ret
      exact retT_no HB0.out
    · have HB_2 := Lib.hid hB2
      clear hB2
      go_wp2_with fail
      refine (in_anyG l.den 1 1125899906842624 _).mono ?_
      rintro e wq ⟨rfl, rfl⟩
      cases hB1 : inB l.den 1 1125899906842624
      · go_wp2_with fail
        go_ret
        exact retT_no HB0.out
      · have HB_1 := Lib.hid hB1
        clear hB1
        go_wp2_with fail
        go_ret
        exact retT_yes (by have hk := HK.out; unfold FieldsOk; refine ⟨fun h => by omega, fun h => ?_, fun h => by omega, fun h => by omega, fun h => by omega⟩; exact ⟨volB_iff.1 HB_3.out, volB_iff.1 HB_2.out, inB_iff.1 HB_1.out⟩) HB0.out
set_option maxRecDepth 100000 in
set_option maxHeartbeats 8000000 in
theorem fields_5 (l : LinkV) (v1 v2 v3 : Value) (w : World) (hk : l.kind = 5) : Calls Tryz.prog 65 #[.agg #[.string l.name, .int .i64 l.kind, .int .i64 l.src, .int .i64 l.dst, v1, v2, v3, .int .i64 l.positions, .int .i64 l.speed, .int .i64 l.leak, .int .i64 l.crest, .int .i64 l.num, .int .i64 l.den, .int .i64 l.prime, .int .i64 l.brk, .int .i64 l.backNum, .int .i64 l.backDen, .int .i64 l.delay]] w (RetT (FieldsOk l) w) := by
  have k0 : (l.kind == 0) = false := by rw [hk]; rfl
  have k1 : (l.kind == 1) = false := by rw [hk]; rfl
  have k5 : (l.kind == 5) = true := by rw [hk]; rfl
  have HK := Lib.hid hk
  clear hk
  go_enter Tryz.func65, Tryz.ntmps65
  go_upto_region 1 with fail
  have HR0 := Lib.hid (heap_alloc_new w (.cells #[.string l.name, .int .i64 l.kind, .int .i64 l.src, .int .i64 l.dst, v1, v2, v3, .int .i64 l.positions, .int .i64 l.speed, .int .i64 l.leak, .int .i64 l.crest, .int .i64 l.num, .int .i64 l.den, .int .i64 l.prime, .int .i64 l.brk, .int .i64 l.backNum, .int .i64 l.backDen, .int .i64 l.delay] 72))
  have HB0 := Lib.hid ((Below.refl w.heap.size w).alloc (Nat.le_refl _) (.cells #[.string l.name, .int .i64 l.kind, .int .i64 l.src, .int .i64 l.dst, v1, v2, v3, .int .i64 l.positions, .int .i64 l.speed, .int .i64 l.leak, .int .i64 l.crest, .int .i64 l.num, .int .i64 l.den, .int .i64 l.prime, .int .i64 l.brk, .int .i64 l.backNum, .int .i64 l.backDen, .int .i64 l.delay] 72))
  generalize w.alloc (.cells #[.string l.name, .int .i64 l.kind, .int .i64 l.src, .int .i64 l.dst, v1, v2, v3, .int .i64 l.positions, .int .i64 l.speed, .int .i64 l.leak, .int .i64 l.crest, .int .i64 l.num, .int .i64 l.den, .int .i64 l.prime, .int .i64 l.brk, .int .i64 l.backNum, .int .i64 l.backDen, .int .i64 l.delay] 72) = w0 at *
  have c1 := rowNG HR0.out 1 (.int .i64 l.kind) rfl
  have c10 := rowNG HR0.out 10 (.int .i64 l.crest) rfl
  have c11 := rowNG HR0.out 11 (.int .i64 l.num) rfl
  have c12 := rowNG HR0.out 12 (.int .i64 l.den) rfl
  go_wp2_with fail
  refine (volume_any l.crest _).mono ?_
  rintro e wq ⟨rfl, rfl⟩
  cases hB3 : volB l.crest
  · go_wp2_with fail
    go_ret
    exact retT_no HB0.out
  · have HB_3 := Lib.hid hB3
    clear hB3
    go_wp2_with fail
    refine (volume_any l.num _).mono ?_
    rintro e wq ⟨rfl, rfl⟩
    cases hB2 : volB l.num
    · go_wp2_with fail
      go_ret
      exact retT_no HB0.out
    · have HB_2 := Lib.hid hB2
      clear hB2
      go_wp2_with fail
      refine (in_anyG l.den 1 1125899906842624 _).mono ?_
      rintro e wq ⟨rfl, rfl⟩
      cases hB1 : inB l.den 1 1125899906842624
      · go_wp2_with fail
        go_ret
        exact retT_no HB0.out
      · have HB_1 := Lib.hid hB1
        clear hB1
        go_wp2_with fail
        go_ret
        exact retT_yes (by have hk := HK.out; unfold FieldsOk; refine ⟨fun h => by omega, fun h => ?_, fun h => by omega, fun h => by omega, fun h => by omega⟩; exact ⟨volB_iff.1 HB_3.out, volB_iff.1 HB_2.out, inB_iff.1 HB_1.out⟩) HB0.out
set_option maxRecDepth 100000 in
set_option maxHeartbeats 8000000 in
theorem fields_2 (l : LinkV) (v1 v2 v3 : Value) (w : World) (hk : l.kind = 2) : Calls Tryz.prog 65 #[.agg #[.string l.name, .int .i64 l.kind, .int .i64 l.src, .int .i64 l.dst, v1, v2, v3, .int .i64 l.positions, .int .i64 l.speed, .int .i64 l.leak, .int .i64 l.crest, .int .i64 l.num, .int .i64 l.den, .int .i64 l.prime, .int .i64 l.brk, .int .i64 l.backNum, .int .i64 l.backDen, .int .i64 l.delay]] w (RetT (FieldsOk l) w) := by
  have k0 : (l.kind == 0) = false := by rw [hk]; rfl
  have k1 : (l.kind == 1) = false := by rw [hk]; rfl
  have k5 : (l.kind == 5) = false := by rw [hk]; rfl
  have k2 : (l.kind == 2) = true := by rw [hk]; rfl
  have HK := Lib.hid hk
  clear hk
  go_enter Tryz.func65, Tryz.ntmps65
  go_upto_region 1 with fail
  have HR0 := Lib.hid (heap_alloc_new w (.cells #[.string l.name, .int .i64 l.kind, .int .i64 l.src, .int .i64 l.dst, v1, v2, v3, .int .i64 l.positions, .int .i64 l.speed, .int .i64 l.leak, .int .i64 l.crest, .int .i64 l.num, .int .i64 l.den, .int .i64 l.prime, .int .i64 l.brk, .int .i64 l.backNum, .int .i64 l.backDen, .int .i64 l.delay] 72))
  have HB0 := Lib.hid ((Below.refl w.heap.size w).alloc (Nat.le_refl _) (.cells #[.string l.name, .int .i64 l.kind, .int .i64 l.src, .int .i64 l.dst, v1, v2, v3, .int .i64 l.positions, .int .i64 l.speed, .int .i64 l.leak, .int .i64 l.crest, .int .i64 l.num, .int .i64 l.den, .int .i64 l.prime, .int .i64 l.brk, .int .i64 l.backNum, .int .i64 l.backDen, .int .i64 l.delay] 72))
  generalize w.alloc (.cells #[.string l.name, .int .i64 l.kind, .int .i64 l.src, .int .i64 l.dst, v1, v2, v3, .int .i64 l.positions, .int .i64 l.speed, .int .i64 l.leak, .int .i64 l.crest, .int .i64 l.num, .int .i64 l.den, .int .i64 l.prime, .int .i64 l.brk, .int .i64 l.backNum, .int .i64 l.backDen, .int .i64 l.delay] 72) = w0 at *
  have c1 := rowNG HR0.out 1 (.int .i64 l.kind) rfl
  have c11 := rowNG HR0.out 11 (.int .i64 l.num) rfl
  have c7 := rowNG HR0.out 7 (.int .i64 l.positions) rfl
  have c8 := rowNG HR0.out 8 (.int .i64 l.speed) rfl
  go_wp2_with fail
  refine (volume_any l.num _).mono ?_
  rintro e wq ⟨rfl, rfl⟩
  cases hB3 : volB l.num
  · go_wp2_with fail
    go_ret
    exact retT_no HB0.out
  · have HB_3 := Lib.hid hB3
    clear hB3
    go_wp2_with fail
    refine (in_anyG l.positions 1 64 _).mono ?_
    rintro e wq ⟨rfl, rfl⟩
    cases hB2 : inB l.positions 1 64
    · go_wp2_with fail
      go_ret
      exact retT_no HB0.out
    · have HB_2 := Lib.hid hB2
      clear hB2
      go_wp2_with fail
      refine (in_anyG l.speed 0 l.positions _).mono ?_
      rintro e wq ⟨rfl, rfl⟩
      cases hB1 : inB l.speed 0 l.positions
      · go_wp2_with fail
        go_ret
        exact retT_no HB0.out
      · have HB_1 := Lib.hid hB1
        clear hB1
        go_wp2_with fail
        go_ret
        exact retT_yes (by have hk := HK.out; unfold FieldsOk; refine ⟨fun h => by omega, fun h => by omega, fun h => ?_, fun h => by omega, fun h => by omega⟩; exact ⟨volB_iff.1 HB_3.out, inB_iff.1 HB_2.out, inB_iff.1 HB_1.out⟩) HB0.out
set_option maxRecDepth 100000 in
set_option maxHeartbeats 8000000 in
theorem fields_3 (l : LinkV) (v1 v2 v3 : Value) (w : World) (hk : l.kind = 3) : Calls Tryz.prog 65 #[.agg #[.string l.name, .int .i64 l.kind, .int .i64 l.src, .int .i64 l.dst, v1, v2, v3, .int .i64 l.positions, .int .i64 l.speed, .int .i64 l.leak, .int .i64 l.crest, .int .i64 l.num, .int .i64 l.den, .int .i64 l.prime, .int .i64 l.brk, .int .i64 l.backNum, .int .i64 l.backDen, .int .i64 l.delay]] w (RetT (FieldsOk l) w) := by
  have k0 : (l.kind == 0) = false := by rw [hk]; rfl
  have k1 : (l.kind == 1) = false := by rw [hk]; rfl
  have k5 : (l.kind == 5) = false := by rw [hk]; rfl
  have k2 : (l.kind == 2) = false := by rw [hk]; rfl
  have k3 : (l.kind == 3) = true := by rw [hk]; rfl
  have HK := Lib.hid hk
  clear hk
  go_enter Tryz.func65, Tryz.ntmps65
  go_upto_region 1 with fail
  have HR0 := Lib.hid (heap_alloc_new w (.cells #[.string l.name, .int .i64 l.kind, .int .i64 l.src, .int .i64 l.dst, v1, v2, v3, .int .i64 l.positions, .int .i64 l.speed, .int .i64 l.leak, .int .i64 l.crest, .int .i64 l.num, .int .i64 l.den, .int .i64 l.prime, .int .i64 l.brk, .int .i64 l.backNum, .int .i64 l.backDen, .int .i64 l.delay] 72))
  have HB0 := Lib.hid ((Below.refl w.heap.size w).alloc (Nat.le_refl _) (.cells #[.string l.name, .int .i64 l.kind, .int .i64 l.src, .int .i64 l.dst, v1, v2, v3, .int .i64 l.positions, .int .i64 l.speed, .int .i64 l.leak, .int .i64 l.crest, .int .i64 l.num, .int .i64 l.den, .int .i64 l.prime, .int .i64 l.brk, .int .i64 l.backNum, .int .i64 l.backDen, .int .i64 l.delay] 72))
  generalize w.alloc (.cells #[.string l.name, .int .i64 l.kind, .int .i64 l.src, .int .i64 l.dst, v1, v2, v3, .int .i64 l.positions, .int .i64 l.speed, .int .i64 l.leak, .int .i64 l.crest, .int .i64 l.num, .int .i64 l.den, .int .i64 l.prime, .int .i64 l.brk, .int .i64 l.backNum, .int .i64 l.backDen, .int .i64 l.delay] 72) = w0 at *
  have c1 := rowNG HR0.out 1 (.int .i64 l.kind) rfl
  have c11 := rowNG HR0.out 11 (.int .i64 l.num) rfl
  have c12 := rowNG HR0.out 12 (.int .i64 l.den) rfl
  have c13 := rowNG HR0.out 13 (.int .i64 l.prime) rfl
  have c14 := rowNG HR0.out 14 (.int .i64 l.brk) rfl
  go_wp2_with fail
  refine (volume_any l.num _).mono ?_
  rintro e wq ⟨rfl, rfl⟩
  cases hB4 : volB l.num
  · go_wp2_with fail
    go_ret
    exact retT_no HB0.out
  · have HB_4 := Lib.hid hB4
    clear hB4
    go_wp2_with fail
    refine (in_anyG l.den 1 1125899906842624 _).mono ?_
    rintro e wq ⟨rfl, rfl⟩
    cases hB3 : inB l.den 1 1125899906842624
    · go_wp2_with fail
      go_ret
      exact retT_no HB0.out
    · have HB_3 := Lib.hid hB3
      clear hB3
      go_wp2_with fail
      refine (volume_any l.prime _).mono ?_
      rintro e wq ⟨rfl, rfl⟩
      cases hB2 : volB l.prime
      · go_wp2_with fail
        go_ret
        exact retT_no HB0.out
      · have HB_2 := Lib.hid hB2
        clear hB2
        go_wp2_with fail
        refine (volume_any l.brk _).mono ?_
        rintro e wq ⟨rfl, rfl⟩
        cases hB1 : volB l.brk
        · go_wp2_with fail
          go_ret
          exact retT_no HB0.out
        · have HB_1 := Lib.hid hB1
          clear hB1
          go_wp2_with fail
          go_ret
          exact ⟨_, (fun _ => by have hk := HK.out; unfold FieldsOk; refine ⟨fun h => by omega, fun h => by omega, fun h => by omega, fun h => ?_, fun h => by omega⟩; exact ⟨volB_iff.1 HB_4.out, inB_iff.1 HB_3.out⟩), rfl, HB0.out⟩
set_option maxRecDepth 100000 in
set_option maxHeartbeats 8000000 in
theorem fields_4 (l : LinkV) (v1 v2 v3 : Value) (w : World) (hk : l.kind = 4) : Calls Tryz.prog 65 #[.agg #[.string l.name, .int .i64 l.kind, .int .i64 l.src, .int .i64 l.dst, v1, v2, v3, .int .i64 l.positions, .int .i64 l.speed, .int .i64 l.leak, .int .i64 l.crest, .int .i64 l.num, .int .i64 l.den, .int .i64 l.prime, .int .i64 l.brk, .int .i64 l.backNum, .int .i64 l.backDen, .int .i64 l.delay]] w (RetT (FieldsOk l) w) := by
  have k0 : (l.kind == 0) = false := by rw [hk]; rfl
  have k1 : (l.kind == 1) = false := by rw [hk]; rfl
  have k5 : (l.kind == 5) = false := by rw [hk]; rfl
  have k2 : (l.kind == 2) = false := by rw [hk]; rfl
  have k3 : (l.kind == 3) = false := by rw [hk]; rfl
  have HK := Lib.hid hk
  clear hk
  go_enter Tryz.func65, Tryz.ntmps65
  go_upto_region 1 with fail
  have HR0 := Lib.hid (heap_alloc_new w (.cells #[.string l.name, .int .i64 l.kind, .int .i64 l.src, .int .i64 l.dst, v1, v2, v3, .int .i64 l.positions, .int .i64 l.speed, .int .i64 l.leak, .int .i64 l.crest, .int .i64 l.num, .int .i64 l.den, .int .i64 l.prime, .int .i64 l.brk, .int .i64 l.backNum, .int .i64 l.backDen, .int .i64 l.delay] 72))
  have HB0 := Lib.hid ((Below.refl w.heap.size w).alloc (Nat.le_refl _) (.cells #[.string l.name, .int .i64 l.kind, .int .i64 l.src, .int .i64 l.dst, v1, v2, v3, .int .i64 l.positions, .int .i64 l.speed, .int .i64 l.leak, .int .i64 l.crest, .int .i64 l.num, .int .i64 l.den, .int .i64 l.prime, .int .i64 l.brk, .int .i64 l.backNum, .int .i64 l.backDen, .int .i64 l.delay] 72))
  generalize w.alloc (.cells #[.string l.name, .int .i64 l.kind, .int .i64 l.src, .int .i64 l.dst, v1, v2, v3, .int .i64 l.positions, .int .i64 l.speed, .int .i64 l.leak, .int .i64 l.crest, .int .i64 l.num, .int .i64 l.den, .int .i64 l.prime, .int .i64 l.brk, .int .i64 l.backNum, .int .i64 l.backDen, .int .i64 l.delay] 72) = w0 at *
  have c1 := rowNG HR0.out 1 (.int .i64 l.kind) rfl
  have c11 := rowNG HR0.out 11 (.int .i64 l.num) rfl
  have c12 := rowNG HR0.out 12 (.int .i64 l.den) rfl
  have c15 := rowNG HR0.out 15 (.int .i64 l.backNum) rfl
  have c16 := rowNG HR0.out 16 (.int .i64 l.backDen) rfl
  have c3 := rowNG HR0.out 3 (.int .i64 l.dst) rfl
  go_wp2_with fail
  refine (volume_any l.num _).mono ?_
  rintro e wq ⟨rfl, rfl⟩
  cases hB3 : volB l.num
  · go_wp2_with fail
    go_ret
    exact retT_no HB0.out
  · have HB_3 := Lib.hid hB3
    clear hB3
    go_wp2_with fail
    refine (in_anyG l.den 1 1125899906842624 _).mono ?_
    rintro e wq ⟨rfl, rfl⟩
    cases hB2 : inB l.den 1 1125899906842624
    · go_wp2_with fail
      go_ret
      exact retT_no HB0.out
    · have HB_2 := Lib.hid hB2
      clear hB2
      go_wp2_with fail
      refine (fraction_any l.backNum l.backDen _).mono ?_
      rintro e wq ⟨rfl, rfl⟩
      cases hB1 : fracB l.backNum l.backDen
      · go_wp2_with fail
        go_ret
        exact retT_no HB0.out
      · have HB_1 := Lib.hid hB1
        clear hB1
        cases hT0 : (l.dst != -1)
        · go_wp2_with fail
          go_ret
          exact retT_no HB0.out
        · have HT0 := Lib.hid hT0
          go_wp2_with fail
          go_ret
          exact retT_yes (by have hk := HK.out; unfold FieldsOk; refine ⟨fun h => by omega, fun h => by omega, fun h => by omega, fun h => by omega, fun h => ?_⟩; exact ⟨volB_iff.1 HB_3.out, inB_iff.1 HB_2.out, fracB_iff.1 HB_1.out, bne_iff_ne.1 HT0.out⟩) HB0.out
set_option maxRecDepth 100000 in
set_option maxHeartbeats 8000000 in
theorem fields_0 (l : LinkV) (v1 v2 v3 : Value) (w : World) (hk : l.kind = 0) (h1 : LArg RPoint 2 v1 l.rate w) (h2 : LArg RPoint 2 v2 l.band.lo w) (h3 : LArg RPoint 2 v3 l.band.hi w) : Calls Tryz.prog 65 #[.agg #[.string l.name, .int .i64 l.kind, .int .i64 l.src, .int .i64 l.dst, v1, v2, v3, .int .i64 l.positions, .int .i64 l.speed, .int .i64 l.leak, .int .i64 l.crest, .int .i64 l.num, .int .i64 l.den, .int .i64 l.prime, .int .i64 l.brk, .int .i64 l.backNum, .int .i64 l.backDen, .int .i64 l.delay]] w (RetT (FieldsOk l) w) := by
  have H1 := Lib.hid h1
  have H2 := Lib.hid h2
  have H3 := Lib.hid h3
  clear h1 h2 h3
  have k0 : (l.kind == 0) = true := by rw [hk]; rfl
  have HK := Lib.hid hk
  clear hk
  go_enter Tryz.func65, Tryz.ntmps65
  go_upto_region 1 with fail
  have HR0 := Lib.hid (heap_alloc_new w (.cells #[.string l.name, .int .i64 l.kind, .int .i64 l.src, .int .i64 l.dst, v1, v2, v3, .int .i64 l.positions, .int .i64 l.speed, .int .i64 l.leak, .int .i64 l.crest, .int .i64 l.num, .int .i64 l.den, .int .i64 l.prime, .int .i64 l.brk, .int .i64 l.backNum, .int .i64 l.backDen, .int .i64 l.delay] 72))
  have HB0 := Lib.hid ((Below.refl w.heap.size w).alloc (Nat.le_refl _) (.cells #[.string l.name, .int .i64 l.kind, .int .i64 l.src, .int .i64 l.dst, v1, v2, v3, .int .i64 l.positions, .int .i64 l.speed, .int .i64 l.leak, .int .i64 l.crest, .int .i64 l.num, .int .i64 l.den, .int .i64 l.prime, .int .i64 l.brk, .int .i64 l.backNum, .int .i64 l.backDen, .int .i64 l.delay] 72))
  generalize w.alloc (.cells #[.string l.name, .int .i64 l.kind, .int .i64 l.src, .int .i64 l.dst, v1, v2, v3, .int .i64 l.positions, .int .i64 l.speed, .int .i64 l.leak, .int .i64 l.crest, .int .i64 l.num, .int .i64 l.den, .int .i64 l.prime, .int .i64 l.brk, .int .i64 l.backNum, .int .i64 l.backDen, .int .i64 l.delay] 72) = w0 at *
  have c1 := rowNG HR0.out 1 (.int .i64 l.kind) rfl
  have c3 := rowNG HR0.out 3 (.int .i64 l.dst) rfl
  have c4 := rowNG HR0.out 4 (v1) rfl
  have c5 := rowNG HR0.out 5 (v2) rfl
  have c6 := rowNG HR0.out 6 (v3) rfl
  have c7 := rowNG HR0.out 7 (.int .i64 l.positions) rfl
  have c8 := rowNG HR0.out 8 (.int .i64 l.speed) rfl
  have c9 := rowNG HR0.out 9 (.int .i64 l.leak) rfl
  have c15 := rowNG HR0.out 15 (.int .i64 l.backNum) rfl
  have c16 := rowNG HR0.out 16 (.int .i64 l.backDen) rfl
  go_wp2_with fail
  refine (right_anyG l.rate v1 _ (H1.out.below stays_Point HB0.out)).mono ?_
  rintro e w1 ⟨rfl, hb⟩
  have HR1 := Lib.hid (blk_below HR0.out hb (blk_lt HR0.out))
  have HB1 := Lib.hid (HB0.out.trans (hb.mono HB0.out.size))
  clear hb HR0 HB0
  clear c1 c3 c4 c5 c6 c7 c8 c9 c15 c16
  have c3 := rowNG HR1.out 3 (.int .i64 l.dst) rfl
  have c4 := rowNG HR1.out 4 (v1) rfl
  have c5 := rowNG HR1.out 5 (v2) rfl
  have c6 := rowNG HR1.out 6 (v3) rfl
  have c7 := rowNG HR1.out 7 (.int .i64 l.positions) rfl
  have c8 := rowNG HR1.out 8 (.int .i64 l.speed) rfl
  have c9 := rowNG HR1.out 9 (.int .i64 l.leak) rfl
  have c15 := rowNG HR1.out 15 (.int .i64 l.backNum) rfl
  have c16 := rowNG HR1.out 16 (.int .i64 l.backDen) rfl
  cases hC1 : rightC l.rate
  · go_wp2_with fail
    all_goals
      go_ret
      exact retT_no HB1.out
  · have HC1 := Lib.hid hC1
    clear hC1
    go_wp2_with fail
    refine (right_anyG l.band.lo v2 _ (H2.out.below stays_Point HB1.out)).mono ?_
    rintro e w2 ⟨rfl, hb⟩
    have HR2 := Lib.hid (blk_below HR1.out hb (blk_lt HR1.out))
    have HB2 := Lib.hid (HB1.out.trans (hb.mono HB1.out.size))
    clear hb HR1 HB1
    clear c3 c4 c5 c6 c7 c8 c9 c15 c16
    have c3 := rowNG HR2.out 3 (.int .i64 l.dst) rfl
    have c4 := rowNG HR2.out 4 (v1) rfl
    have c5 := rowNG HR2.out 5 (v2) rfl
    have c6 := rowNG HR2.out 6 (v3) rfl
    have c7 := rowNG HR2.out 7 (.int .i64 l.positions) rfl
    have c8 := rowNG HR2.out 8 (.int .i64 l.speed) rfl
    have c9 := rowNG HR2.out 9 (.int .i64 l.leak) rfl
    have c15 := rowNG HR2.out 15 (.int .i64 l.backNum) rfl
    have c16 := rowNG HR2.out 16 (.int .i64 l.backDen) rfl
    cases hC2 : rightC l.band.lo
    · go_wp2_with fail
      all_goals
        go_ret
        exact retT_no HB2.out
    · have HC2 := Lib.hid hC2
      clear hC2
      go_wp2_with fail
      refine (right_anyG l.band.hi v3 _ (H3.out.below stays_Point HB2.out)).mono ?_
      rintro e w3 ⟨rfl, hb⟩
      have HR3 := Lib.hid (blk_below HR2.out hb (blk_lt HR2.out))
      have HB3 := Lib.hid (HB2.out.trans (hb.mono HB2.out.size))
      clear hb HR2 HB2
      clear c3 c4 c5 c6 c7 c8 c9 c15 c16
      have c3 := rowNG HR3.out 3 (.int .i64 l.dst) rfl
      have c4 := rowNG HR3.out 4 (v1) rfl
      have c5 := rowNG HR3.out 5 (v2) rfl
      have c6 := rowNG HR3.out 6 (v3) rfl
      have c7 := rowNG HR3.out 7 (.int .i64 l.positions) rfl
      have c8 := rowNG HR3.out 8 (.int .i64 l.speed) rfl
      have c9 := rowNG HR3.out 9 (.int .i64 l.leak) rfl
      have c15 := rowNG HR3.out 15 (.int .i64 l.backNum) rfl
      have c16 := rowNG HR3.out 16 (.int .i64 l.backDen) rfl
      cases hC3 : rightC l.band.hi
      · go_wp2_with fail
        all_goals
          go_ret
          exact retT_no HB3.out
      · have HC3 := Lib.hid hC3
        clear hC3
        go_wp2_with fail
        refine (under_any l.band.lo l.rate v2 v1 _ (H2.out.below stays_Point HB3.out) (H1.out.below stays_Point HB3.out)).mono ?_
        rintro e w4 ⟨rfl, hb⟩
        have HR4 := Lib.hid (blk_below HR3.out hb (blk_lt HR3.out))
        have HB4 := Lib.hid (HB3.out.trans (hb.mono HB3.out.size))
        clear hb HR3 HB3
        clear c3 c4 c5 c6 c7 c8 c9 c15 c16
        have c3 := rowNG HR4.out 3 (.int .i64 l.dst) rfl
        have c4 := rowNG HR4.out 4 (v1) rfl
        have c5 := rowNG HR4.out 5 (v2) rfl
        have c6 := rowNG HR4.out 6 (v3) rfl
        have c7 := rowNG HR4.out 7 (.int .i64 l.positions) rfl
        have c8 := rowNG HR4.out 8 (.int .i64 l.speed) rfl
        have c9 := rowNG HR4.out 9 (.int .i64 l.leak) rfl
        have c15 := rowNG HR4.out 15 (.int .i64 l.backNum) rfl
        have c16 := rowNG HR4.out 16 (.int .i64 l.backDen) rfl
        cases hC4 : underC l.band.lo l.rate
        · go_wp2_with fail
          all_goals
            go_ret
            exact retT_no HB4.out
        · have HC4 := Lib.hid hC4
          clear hC4
          go_wp2_with fail
          refine (under_any l.rate l.band.hi v1 v3 _ (H1.out.below stays_Point HB4.out) (H3.out.below stays_Point HB4.out)).mono ?_
          rintro e w5 ⟨rfl, hb⟩
          have HR5 := Lib.hid (blk_below HR4.out hb (blk_lt HR4.out))
          have HB5 := Lib.hid (HB4.out.trans (hb.mono HB4.out.size))
          clear hb HR4 HB4
          clear c3 c4 c5 c6 c7 c8 c9 c15 c16
          have c3 := rowNG HR5.out 3 (.int .i64 l.dst) rfl
          have c4 := rowNG HR5.out 4 (v1) rfl
          have c5 := rowNG HR5.out 5 (v2) rfl
          have c6 := rowNG HR5.out 6 (v3) rfl
          have c7 := rowNG HR5.out 7 (.int .i64 l.positions) rfl
          have c8 := rowNG HR5.out 8 (.int .i64 l.speed) rfl
          have c9 := rowNG HR5.out 9 (.int .i64 l.leak) rfl
          have c15 := rowNG HR5.out 15 (.int .i64 l.backNum) rfl
          have c16 := rowNG HR5.out 16 (.int .i64 l.backDen) rfl
          cases hC5 : underC l.rate l.band.hi
          · go_wp2_with fail
            all_goals
              go_ret
              exact retT_no HB5.out
          · have HC5 := Lib.hid hC5
            clear hC5
            go_wp2_with fail
            refine (in_anyG l.positions 0 64 _).mono ?_
            rintro e wq ⟨rfl, rfl⟩
            cases hB4 : inB l.positions 0 64
            · go_wp2_with fail
              all_goals
                go_ret
                exact retT_no HB5.out
            · have HB_4 := Lib.hid hB4
              clear hB4
              go_wp2_with fail
              refine (in_anyG l.speed 0 l.positions _).mono ?_
              rintro e wq ⟨rfl, rfl⟩
              cases hB3 : inB l.speed 0 l.positions
              · go_wp2_with fail
                all_goals
                  go_ret
                  exact retT_no HB5.out
              · have HB_3 := Lib.hid hB3
                clear hB3
                go_wp2_with fail
                refine (volume_any l.leak _).mono ?_
                rintro e wq ⟨rfl, rfl⟩
                cases hB2 : volB l.leak
                · go_wp2_with fail
                  all_goals
                    go_ret
                    exact retT_no HB5.out
                · have HB_2 := Lib.hid hB2
                  clear hB2
                  go_wp2_with fail
                  refine (fraction_any l.backNum l.backDen _).mono ?_
                  rintro e wq ⟨rfl, rfl⟩
                  cases hB1 : fracB l.backNum l.backDen
                  · go_wp2_with fail
                    all_goals
                      go_ret
                      exact retT_no HB5.out
                  · have HB_1 := Lib.hid hB1
                    clear hB1
                    cases hT0 : (l.dst != -1)
                    · cases hT1 : (l.backDen == 0)
                      · go_wp2_with fail
                        all_goals
                          go_ret
                          exact retT_no HB5.out
                      · go_wp2_with fail
                        go_ret
                        exact retT_yes (by unfold FieldsOk; refine ⟨fun h => ?_, fun h => by have := HK.out; omega, fun h => by have := HK.out; omega, fun h => by have := HK.out; omega, fun h => by have := HK.out; omega⟩; exact ⟨HC1.out, HC2.out, HC3.out, HC4.out, HC5.out, inB_iff.1 HB_4.out, inB_iff.1 HB_3.out, volB_iff.1 HB_2.out, fracB_iff.1 HB_1.out⟩) HB5.out
                    · go_wp2_with fail
                      go_ret
                      exact retT_yes (by unfold FieldsOk; refine ⟨fun h => ?_, fun h => by have := HK.out; omega, fun h => by have := HK.out; omega, fun h => by have := HK.out; omega, fun h => by have := HK.out; omega⟩; exact ⟨HC1.out, HC2.out, HC3.out, HC4.out, HC5.out, inB_iff.1 HB_4.out, inB_iff.1 HB_3.out, volB_iff.1 HB_2.out, fracB_iff.1 HB_1.out⟩) HB5.out
theorem fields_any (l : LinkV) (v1 v2 v3 : Value) (w : World) (hk : 0 ≤ l.kind ∧ l.kind ≤ 5) (h1 : LArg RPoint 2 v1 l.rate w) (h2 : LArg RPoint 2 v2 l.band.lo w) (h3 : LArg RPoint 2 v3 l.band.hi w) : Calls Tryz.prog 65 #[.agg #[.string l.name, .int .i64 l.kind, .int .i64 l.src, .int .i64 l.dst, v1, v2, v3, .int .i64 l.positions, .int .i64 l.speed, .int .i64 l.leak, .int .i64 l.crest, .int .i64 l.num, .int .i64 l.den, .int .i64 l.prime, .int .i64 l.brk, .int .i64 l.backNum, .int .i64 l.backDen, .int .i64 l.delay]] w (RetT (FieldsOk l) w) := by
  have h5 : l.kind = 0 ∨ l.kind = 1 ∨ l.kind = 2 ∨ l.kind = 3 ∨ l.kind = 4 ∨ l.kind = 5 := by omega
  rcases h5 with h | h | h | h | h | h
  · exact fields_0 l v1 v2 v3 w h h1 h2 h3
  · exact fields_1 l v1 v2 v3 w h
  · exact fields_2 l v1 v2 v3 w h
  · exact fields_3 l v1 v2 v3 w h
  · exact fields_4 l v1 v2 v3 w h
  · exact fields_5 l v1 v2 v3 w h
end Go.Proofs.YtepidpegoihllaaGreatDoor

