/- cast.At: the rain of a forecast in an hour. -/
import Derived.Test.YtleiiedacachjaaKBytes
import Derived.Laws.CopyRow
namespace Go.Proofs.Ytleiiedacachjaa
open Go.RowKit
theorem run_copy_rowK {P : Program} (w : World) (dT sT ty elem : TypeId) (g dLen dCap size : Nat) (a : Addr) (sLen sCap : Nat) (cur : Array Value) (t : TypeId) (cs : List Value)
    (hu : P.underlying dT = some (.slice elem)) (hs : (P.info? elem).map (·.size) = some size)
    (hg : w.heap[g]? = some (.cells cur t (0, 0))) (hn : cs.length = Nat.min sLen dLen * size)
    (hsrc : ∀ j v, cs[j]? = some v → w.cell? (a.add j) = some v) (hfit : cs.length ≤ cur.size) (h1 : ∀ v ∈ cs, v.oneCell' = true) :
    (Builtin.copy_ #[dT, sT] ty #[.slice (some ⟨g, 0, none⟩) dLen dCap, .slice (some a) sLen sCap]).run P w =
      .ok (goInt (Nat.min sLen dLen)) (w.setRow g (cs ++ cur.toList.drop cs.length).toArray) := by
  have hl := run_loadCells_list (P := P) w a cs hsrc
  have hst := run_storeCells_at P g 0 t cs 0 cur w hg (by simpa using hfit) h1
  cases hq : P.info? elem with
  | none => simp [hq] at hs
  | some i =>
    have hi : i.size = size := by simpa [hq] using hs
    simp [Builtin.copy_, run_underlying hu, Builtin.lenOf, Builtin.firstCells, sizeOf, typeInfo, hq, hi, ← hn, hl, hst]
theorem run_copy_zero {P : Program} (w : World) (dT sT ty elem : TypeId) (g dLen dCap size : Nat) (a : Option Addr) (sCap : Nat)
    (hu : P.underlying dT = some (.slice elem)) (hs : (P.info? elem).map (·.size) = some size) :
    (Builtin.copy_ #[dT, sT] ty #[.slice (some ⟨g, 0, none⟩) dLen dCap, .slice a 0 sCap]).run P w = .ok (goInt 0) w := by
  cases hq : P.info? elem with
  | none => simp [hq] at hs
  | some i =>
    cases a with
    | none => simp [Builtin.copy_, run_underlying hu, Builtin.lenOf, Builtin.firstCells, sizeOf, typeInfo, hq, storeCells]
    | some a =>
      have hl := run_loadCells_list (P := P) w a [] (by simp)
      simp only [List.length_nil] at hl
      simp [Builtin.copy_, run_underlying hu, Builtin.lenOf, Builtin.firstCells, sizeOf, typeInfo, hq, storeCells, hl]
def spV (r : List SpanV) : List Value := (endsL r).map (Value.int .i64)
theorem spV_len (r : List SpanV) : (spV r).length = 2 * r.length := by unfold spV; rw [List.length_map, ends_len]
theorem spV_app (a b : List SpanV) : spV (a ++ b) = spV a ++ spV b := by unfold spV endsL; rw [List.flatMap_append, List.map_append]
theorem spV_drop : ∀ (l : List SpanV) (k : Nat), (spV l).drop (2 * k) = spV (l.drop k)
  | [], k => by simp [spV, endsL]
  | y :: l, 0 => rfl
  | y :: l, k + 1 => by
    have e : spV (y :: l) = .int .i64 y.lo :: .int .i64 y.hi :: spV l := rfl
    rw [e, Nat.mul_succ, List.drop_succ_cons, List.drop_succ_cons, List.drop_succ_cons]
    exact spV_drop l k
theorem spV_one (r : List SpanV) : ∀ v ∈ spV r, v.oneCell' = true := fun v hv => by
  unfold spV at hv
  obtain ⟨n, _, rfl⟩ := List.mem_map.1 hv
  rfl
def zerosS (n : Nat) : List SpanV := List.replicate n ⟨0, 0⟩
theorem spV_get : ∀ (r : List SpanV) (k : Nat) (s : SpanV), r[k]? = some s → (spV r)[k * 2]? = some (.int .i64 s.lo) ∧ (spV r)[k * 2 + 1]? = some (.int .i64 s.hi)
  | [], k, s, h => by simp at h
  | y :: r, 0, s, h => by
    simp only [List.getElem?_cons_zero, Option.some.injEq] at h
    subst h
    exact ⟨rfl, rfl⟩
  | y :: r, k + 1, s, h => by
    have e : spV (y :: r) = [.int .i64 y.lo, .int .i64 y.hi] ++ spV r := rfl
    obtain ⟨h1, h2⟩ := spV_get r k s (by simpa using h)
    rw [e]
    constructor
    · rw [List.getElem?_append_right (by simp; omega)]
      have : (k + 1) * 2 - [Value.int .i64 y.lo, .int .i64 y.hi].length = k * 2 := by simp; omega
      rw [this]; exact h1
    · rw [List.getElem?_append_right (by simp; omega)]
      have : (k + 1) * 2 + 1 - [Value.int .i64 y.lo, .int .i64 y.hi].length = k * 2 + 1 := by simp; omega
      rw [this]; exact h2
/-- the cells of spans that came in -/
theorem larg_cells {b o n c : Nat} {r : List SpanV} {w : World} (h : LArg RSpan 2 (.slice (some ⟨b, o, none⟩) n c) r w) : ∀ j v, (spV r)[j]? = some v → w.cell? ((⟨b, o, none⟩ : Addr).add j) = some v := fun j v hj => by
  have hjl : j < 2 * r.length := by rw [← spV_len]; exact (List.getElem?_eq_some_iff.1 hj).1
  obtain ⟨s, hs⟩ : ∃ s, r[j / 2]? = some s := ⟨_, List.getElem?_eq_getElem (by omega)⟩
  obtain ⟨b', o', cs, ha, _, _, hrg, rfl, -, -⟩ := h.at hs
  simp only [Option.some.injEq, Addr.mk.injEq, and_true] at ha
  obtain ⟨rfl, rfl⟩ := ha
  obtain ⟨h1, h2⟩ := spV_get r _ _ hs
  rw [Addr.add_mid]
  rcases Nat.mod_two_eq_zero_or_one j with e | e
  · have ej : j = j / 2 * 2 := by omega
    rw [ej] at hj ⊢
    rw [h1] at hj
    cases hj
    exact hrg 0 _ rfl
  · have ej : j = j / 2 * 2 + 1 := by omega
    rw [ej] at hj ⊢
    rw [h2] at hj
    cases hj
    have := hrg 1 _ rfl
    rw [← Nat.add_assoc]
    exact this
/-- the rain of an hour -/
def atL (x : CastV) (h : Int) (n : Nat) : List SpanV := if h < x.src then zerosS n else match x.rain[(h - x.src).toNat]? with | some r => r.take n ++ (zerosS n).drop r.length | none => zerosS n
theorem undSs : Try.prog.underlying 50 = some (.slice 54) := by kernel_rfl
theorem make_spans (n : Nat) (w : World) (hn : n ≤ 1000) : (Instr.makeSlice 50 (.int .i64 (n : Int)) (.int .i64 (n : Int))).run Try.prog w = .ok (.slice (some ⟨w.heap.size, 0, none⟩) n n) (w.alloc (.cells (spV (zerosS n)).toArray 54)) := by
  obtain ⟨i0, hi⟩ : ∃ i, Try.prog.info? 54 = some i := Option.isSome_iff_exists.1 (by kernel_rfl)
  have hz0 : i0.zero = some (.agg #[.int .i64 0, .int .i64 0]) := by
    have h : (Try.prog.info? 54).bind (·.zero) = some (.agg #[.int .i64 0, .int .i64 0]) := by kernel_rfl
    rw [hi] at h; exact h
  have hz2 : i0.bytes = 16 := by
    have h : (Try.prog.info? 54).map (·.bytes) = some 16 := by kernel_rfl
    rw [hi] at h; exact Option.some.inj h
  have hz3 : i0.size = 2 := by
    have h : (Try.prog.info? 54).map (·.size) = some 2 := by kernel_rfl
    rw [hi] at h; exact Option.some.inj h
  have hr := run_make (P := Try.prog) w 50 54 i0 _ undSs hi hz0 .i64 .i64 (n : Int) (n : Int) (by omega) (by omega) (by rw [hz2]; omega) (by omega)
  rw [hr, hz3]
  have hc : madeCells (Value.cells (.agg #[.int .i64 0, .int .i64 0])) ((n : Int).toNat * 2) = (spV (zerosS n)).toArray := by
    rw [Int.toNat_natCast]
    have hall : ∀ v ∈ spV (zerosS n), v = .int .i64 0 := fun v hv => by
      unfold spV endsL zerosS at hv
      obtain ⟨m, hm, rfl⟩ := List.mem_map.1 hv
      rw [List.mem_flatMap] at hm
      obtain ⟨s, hs, hm⟩ := hm
      rw [List.eq_of_mem_replicate hs] at hm
      simp at hm
      rw [hm]
    unfold madeCells
    apply Array.ext
    · simp [spV_len, zerosS, Nat.mul_comm]
    · intro i h1 h2
      have e := hall ((spV (zerosS n))[i]'(by simpa using h2)) (List.getElem_mem _)
      simp only [List.getElem_toArray]
      rw [e]
      simp
      show (#[Value.int .i64 0, Value.int .i64 0] : Array Value)[i % 2]! = _
      rcases Nat.mod_two_eq_zero_or_one i with e | e <;> rw [e] <;> rfl
  rw [← hc]
  rfl
/-- a slice that the call has made, with these spans -/
def AtPost (l : List SpanV) (w : World) (e : Ending) (w' : World) : Prop := ∃ b, e = .returned (.slice (some ⟨b, 0, none⟩) l.length l.length) ∧ w.heap.size ≤ b ∧ w'.heap[b]? = some (.cells (spV l).toArray 54 (0, 0)) ∧ Below w.heap.size w w'
theorem zerosS_len (n : Nat) : (zerosS n).length = n := List.length_replicate
theorem atL_len (x : CastV) (h : Int) (n : Nat) : (atL x h n).length = n := by
  unfold atL
  split
  · exact zerosS_len n
  · split
    · rw [List.length_append, List.length_drop, zerosS_len, List.length_take]; omega
    · exact zerosS_len n
theorem infoSs : (Try.prog.info? 54).map (·.size) = some 2 := infoSp
set_option maxRecDepth 100000 in
set_option maxHeartbeats 4000000 in
theorem at_any (x : CastV) (v0 : Value) (h : Int) (n : Nat) (w : World) (hr : LArg (RList RSpan 2) 1 v0 x.rain w) (hh : I64 h) (hs : I64 x.src) (h1 : 1 ≤ n) (h2 : n ≤ 64) :
    Calls Try.prog 17 #[.agg #[.int .i64 x.id, .int .i64 x.src, v0], .int .i64 h, .int .i64 (n : Int)] w (AtPost (atL x h n) w) := by
  obtain ⟨a0, q0, rfl, hq0, hq1⟩ := hr.slice
  unfold I64 at hh hs
  unfold maxLen at hq1
  have HR := Lib.hid hr
  clear hr
  have k1 : ¬ (n : Int) < 1 := by omega
  have k2 : ¬ (64 : Int) < (n : Int) := by omega
  have hmk := fun w => make_spans n w (by omega)
  go_enter Try.func17, Try.ntmps17
  go_upto_region 1 with fail
  have HC0 := Lib.hid (heap_alloc_new w (.cells #[.int .i64 x.id, .int .i64 x.src, .slice a0 x.rain.length q0] 27))
  have HB0 := Lib.hid ((Below.refl w.heap.size w).alloc (Nat.le_refl _) (.cells #[.int .i64 x.id, .int .i64 x.src, .slice a0 x.rain.length q0] 27))
  generalize w.alloc (.cells #[.int .i64 x.id, .int .i64 x.src, .slice a0 x.rain.length q0] 27) = w0 at *
  go_upto_region 4 with fail
  have hst : Below w0.heap.size w0 (w0.alloc (.cells (spV (zerosS n)).toArray 54)) := (Below.refl _ _).alloc (Nat.le_refl _) (.cells (spV (zerosS n)).toArray 54)
  have HC1 := Lib.hid (blk_below HC0.out hst (blk_lt HC0.out))
  have HB1 := Lib.hid (HB0.out.alloc HB0.out.size (.cells (spV (zerosS n)).toArray 54))
  have HZ := Lib.hid (heap_alloc_new w0 (.cells (spV (zerosS n)).toArray 54))
  have hle : w.heap.size ≤ w0.heap.size := HB0.out.size
  clear hst hmk k1 k2 HC0 HB0
  generalize w0.alloc (.cells (spV (zerosS n)).toArray 54) = w1 at *
  generalize w0.heap.size = b at *
  have c1 := rowN HC1.out 1 (.int .i64 x.src) rfl
  by_cases hlt : h < x.src
  · have e : atL x h n = zerosS n := if_pos hlt
    have E := Lib.hid e
    clear e
    go_wp2_with fail
    go_ret
    exact ⟨b, by rw [E.out, zerosS_len]; rfl, hle, by rw [E.out]; exact HZ.out, HB1.out⟩
  · have c2 := rowN HC1.out 2 (.slice a0 x.rain.length q0) rfl
    by_cases hin : h - x.src < (x.rain.length : Int)
    · obtain ⟨k, hk⟩ : ∃ k : Nat, h - x.src = (k : Int) := ⟨(h - x.src).toNat, by omega⟩
      have hkl : k < x.rain.length := by omega
      have F1 : IntKind.i64.wrap (h - x.src) = (k : Int) := by rw [hk]; exact IntWalk.i64_in _ (by omega)
      obtain ⟨r, hrr⟩ : ∃ r, x.rain[k]? = some r := ⟨_, List.getElem?_eq_getElem hkl⟩
      obtain ⟨g, o, cs, ha, hbl, -, hrg, v, rfl, hrow⟩ := (HR.out.below (stays_list stays_Span 2) HB1.out).at hrr
      subst ha
      obtain ⟨a1, q1, rfl, -, -⟩ := hrow.slice
      have c0 := hrg 0 _ rfl
      simp only [Nat.mul_one, Nat.add_zero] at c0
      have E : Hid (atL x h n = r.take n ++ (zerosS n).drop r.length) := Lib.hid (by
        unfold atL
        rw [if_neg hlt, hk, Int.toNat_natCast, hrr])
      have hkl2 : (k : Int) < (x.rain.length : Int) := by omega
      have HRW := Lib.hid hrow
      clear hrg hrow hrr hin hk
      by_cases hz : r.length = 0
      · have hcp := fun ty w => run_copy_zero (P := Try.prog) w 50 50 ty 54 b n n 2 a1 q1 undSs infoSs
        have hr0 : r = [] := List.eq_nil_of_length_eq_zero hz
        subst hr0
        go_wp2_with fail
        go_ret
        have E2 : atL x h n = zerosS n := by rw [E.out]; simp
        exact ⟨b, by rw [E2, zerosS_len]; rfl, hle, by rw [E2]; exact HZ.out, HB1.out⟩
      · obtain ⟨s0, hs0⟩ : ∃ s, r[0]? = some s := ⟨_, List.getElem?_eq_getElem (by omega)⟩
        obtain ⟨g1, o1, cs1, ha1, -, -, -, -⟩ := HRW.out.at hs0
        subst ha1
        have hm : Nat.min r.length n = (r.take n).length := by rw [List.length_take, Nat.min_comm]
        have hcp := fun ty => run_copy_rowK (P := Try.prog) w1 50 50 ty 54 b n n 2 ⟨g1, o1, none⟩ r.length q1 (spV (zerosS n)).toArray 54 (spV (r.take n)) undSs infoSs HZ.out
          (by rw [spV_len, hm, Nat.mul_comm]) (fun j v hj => larg_cells HRW.out j v (by
            have e : spV r = spV (r.take n) ++ spV (r.drop n) := by rw [← spV_app, List.take_append_drop]
            rw [e, List.getElem?_append_left (List.getElem?_eq_some_iff.1 hj).1]
            exact hj)) (by rw [List.size_toArray, spV_len, spV_len, zerosS_len, List.length_take]; have := Nat.min_le_left n r.length; omega) (spV_one _)
        have HNEW : Hid ((w1.setRow b (spV (r.take n) ++ (spV (zerosS n)).toArray.toList.drop (spV (r.take n)).length).toArray).heap[b]? = some (.cells (spV (atL x h n)).toArray 54 (0, 0))) := Lib.hid (by
          rw [setRow_heap _ _ _ _ _ _ HZ.out, E.out, spV_app]
          have e : (spV (zerosS n)).toArray.toList.drop (spV (r.take n)).length = spV ((zerosS n).drop r.length) := by
            rw [List.toList_toArray, spV_len, spV_drop, List.length_take]
            by_cases hrn : r.length ≤ n
            · rw [Nat.min_eq_right hrn]
            · rw [Nat.min_eq_left (by omega), List.drop_eq_nil_of_le (by rw [zerosS_len]; exact Nat.le_refl _), List.drop_eq_nil_of_le (by rw [zerosS_len]; omega)]
          rw [e])
        have HBN := Lib.hid (below_setRow HB1.out hle (spV (r.take n) ++ (spV (zerosS n)).toArray.toList.drop (spV (r.take n)).length).toArray)
        clear hm hs0 hz
        go_wp2_with fail
        go_ret
        exact ⟨b, by rw [atL_len]; rfl, hle, HNEW.out, HBN.out⟩
    · have E : Hid (atL x h n = zerosS n) := Lib.hid (by
        unfold atL
        rw [if_neg hlt, List.getElem?_eq_none (by omega)])
      by_cases hov : h - x.src ≤ 9223372036854775807
      · have F1 : IntKind.i64.wrap (h - x.src) = h - x.src := IntWalk.i64_in _ (by omega)
        have F2 : 0 ≤ h - x.src := by omega
        go_wp2_with fail
        go_ret
        exact ⟨b, by rw [E.out, zerosS_len]; rfl, hle, by rw [E.out]; exact HZ.out, HB1.out⟩
      · have F1 : IntKind.i64.wrap (h - x.src) = h - x.src - 18446744073709551616 := by rw [IntKind.wrap_i64]; omega
        have F2 : ¬ 0 ≤ h - x.src - 18446744073709551616 := by omega
        go_wp2_with fail
        go_ret
        exact ⟨b, by rw [E.out, zerosS_len]; rfl, hle, by rw [E.out]; exact HZ.out, HB1.out⟩
end Go.Proofs.Ytleiiedacachjaa
