/- bournelaw24.GramOrders returns true. -/
import Derived.Test.YtmlfkhpmgjcliaaDoorGReads
namespace Go.Proofs.YtmlfkhpmgjcliaaDoor
open Go.RowKit
theorem below_drewNo {B : Nat} {a w : World} (h : Below B a w) (n : Nat) : Below B a (w.drewN n) := h.trans ⟨rfl, rfl, rfl, Nat.le_refl _, fun _ _ => rfl⟩
theorem less_str (S T : ByteArray) {b : Bool} (h : decide (S.data.toList < T.data.toList) = b) : Op.bytesLess S.toList T.toList = b := by
  rw [bytesLess_eq, ByteArray.toList_eq, ByteArray.toList_eq]
  exact h
theorem row5 {w : World} {p : Nat} {fr : Nat × Nat} {ty : TypeId} {a b c d e : Value} (h : w.heap[p]? = some (.cells #[a, b, c, d, e] ty fr)) : w.cell? ⟨p, 0, none⟩ = some a ∧ w.cell? ⟨p, 1, none⟩ = some b ∧ w.cell? ⟨p, 2, none⟩ = some c ∧ w.cell? ⟨p, 3, none⟩ = some d ∧ w.cell? ⟨p, 4, none⟩ = some e :=
  ⟨(cell_of_row _ _ _ _ _ _ h).trans rfl, (cell_of_row _ _ _ _ _ _ h).trans rfl, (cell_of_row _ _ _ _ _ _ h).trans rfl, (cell_of_row _ _ _ _ _ _ h).trans rfl, (cell_of_row _ _ _ _ _ _ h).trans rfl⟩
theorem row4c {w : World} {p : Nat} {fr : Nat × Nat} {ty : TypeId} {a b c d : Value} (h : w.heap[p]? = some (.cells #[a, b, c, d] ty fr)) : w.cell? ⟨p, 0, none⟩ = some a ∧ w.cell? ⟨p, 1, none⟩ = some b ∧ w.cell? ⟨p, 2, none⟩ = some c ∧ w.cell? ⟨p, 3, none⟩ = some d :=
  ⟨(cell_of_row _ _ _ _ _ _ h).trans rfl, (cell_of_row _ _ _ _ _ _ h).trans rfl, (cell_of_row _ _ _ _ _ _ h).trans rfl, (cell_of_row _ _ _ _ _ _ h).trans rfl⟩
set_option maxRecDepth 100000 in
set_option maxHeartbeats 8000000 in
theorem orders_core (g h : GV) (w : World) (hO : GOk g) (hP : GOk h) (hG : Glob w) (hM : MLen w) :
    Calls Tryd.prog 5 #[.agg #[.int .i64 g.gauge, .int .i64 g.seq, .int .i64 g.clock, .int .i64 g.value, .string g.tag], .agg #[.int .i64 h.gauge, .int .i64 h.seq, .int .i64 h.clock, .int .i64 h.value, .string h.tag]] w fun e w' => e = .returned (.bool true) ∧ Below w.heap.size w w' := by
  have HO := Lib.hid hO
  have HP := Lib.hid hP
  have HG := Lib.hid hG
  have HM := Lib.hid hM
  have hB0 := ((Below.refl w.heap.size w).alloc (Nat.le_refl _) (.cells #[.int .i64 g.gauge, .int .i64 g.seq, .int .i64 g.clock, .int .i64 g.value, .string g.tag] 23)).alloc (by simp) (.cells #[.int .i64 h.gauge, .int .i64 h.seq, .int .i64 h.clock, .int .i64 h.value, .string h.tag] 23)
  have h00 := two_rows' (w := w) (A := .cells #[.int .i64 g.gauge, .int .i64 g.seq, .int .i64 g.clock, .int .i64 g.value, .string g.tag] 23) (B := .cells #[.int .i64 h.gauge, .int .i64 h.seq, .int .i64 h.clock, .int .i64 h.value, .string h.tag] 23)
  have hsz0 : w.heap.size + 2 ≤ ((w.alloc (.cells #[.int .i64 g.gauge, .int .i64 g.seq, .int .i64 g.clock, .int .i64 g.value, .string g.tag] 23)).alloc (.cells #[.int .i64 h.gauge, .int .i64 h.seq, .int .i64 h.clock, .int .i64 h.value, .string h.tag] 23)).heap.size := by simp
  clear hO hP hG hM
  go_enter Tryd.func5, Tryd.ntmps5
  go_wp2_with fail
  generalize ((w.alloc (.cells #[.int .i64 g.gauge, .int .i64 g.seq, .int .i64 g.clock, .int .i64 g.value, .string g.tag] 23)).alloc (.cells #[.int .i64 h.gauge, .int .i64 h.seq, .int .i64 h.clock, .int .i64 h.value, .string h.tag] 23)) = w0 at *
  refine (small_any _ (HG.out.below hB0 HG.out.size) (HM.out.up hB0)).mono ?_
  rintro e w1 ⟨rfl, hb⟩
  have H1 := Lib.hid (blk_below h00.1 hb (by omega))
  have K1 := Lib.hid (blk_below h00.2 hb (by omega))
  have HB1 := Lib.hid (hB0.trans (hb.mono hB0.size))
  obtain ⟨x0, x1, x2, x3, x4⟩ := row5 H1.out
  obtain ⟨y0, y1, y2, y3, y4⟩ := row5 K1.out
  clear h00 hB0 hb
  go_wp2_with fail
  refine (short_any _ _ _ _).mono ?_
  rintro e w1' ⟨rfl, rfl⟩
  by_cases hsh : g.tag.size ≤ 300 ∧ h.tag.size ≤ 300 ∧ (⟨#[]⟩ : ByteArray).size ≤ 300
  case neg =>
    rw [decide_eq_false hsh]
    go_wp2_with fail
    go_ret
    exact ⟨rfl, HB1.out⟩
  rw [decide_eq_true hsh]
  obtain ⟨hs1, hs2, _⟩ := hsh
  go_wp2_with fail
  refine (bytes_any g _ HO.out (HM.out.up HB1.out) hs1).mono ?_
  rintro e w2 ⟨rfl, hb⟩
  have H2 := Lib.hid (blk_below H1.out hb (blk_lt H1.out))
  have K2 := Lib.hid (blk_below K1.out hb (blk_lt K1.out))
  have HB2 := Lib.hid (HB1.out.trans (hb.mono HB1.out.size))
  clear x0 x1 x2 x3 x4 y0 y1 y2 y3 y4 hb H1 K1 HB1
  obtain ⟨x0, x1, x2, x3, x4⟩ := row5 H2.out
  obtain ⟨y0, y1, y2, y3, y4⟩ := row5 K2.out
  go_wp2_with fail
  refine (bytes_any h _ HP.out (HM.out.up HB2.out) hs2).mono ?_
  rintro e w3 ⟨rfl, hb⟩
  have H3 := Lib.hid (blk_below H2.out hb (blk_lt H2.out))
  have K3 := Lib.hid (blk_below K2.out hb (blk_lt K2.out))
  have HB3 := Lib.hid (HB2.out.trans (hb.mono HB2.out.size))
  clear x0 x1 x2 x3 x4 y0 y1 y2 y3 y4 hb H2 K2 HB2
  obtain ⟨x0, x1, x2, x3, x4⟩ := row5 H3.out
  obtain ⟨y0, y1, y2, y3, y4⟩ := row5 K3.out
  have hT1 : ((⟨(gramL g).toArray⟩ : ByteArray).toList == []) = !decide (Formed g) := by
    rw [ByteArray.toList_eq]
    by_cases hf : Formed g
    · rw [decide_eq_true hf, Bool.not_true, beq_eq_false_iff_ne]
      exact fun e => (gramL_nil.1 e) hf
    · rw [decide_eq_false hf, Bool.not_false, beq_iff_eq]
      exact gramL_nil.2 hf
  have hT2 : ((⟨(gramL h).toArray⟩ : ByteArray).toList == []) = !decide (Formed h) := by
    rw [ByteArray.toList_eq]
    by_cases hf : Formed h
    · rw [decide_eq_true hf, Bool.not_true, beq_eq_false_iff_ne]
      exact fun e => (gramL_nil.1 e) hf
    · rw [decide_eq_false hf, Bool.not_false, beq_iff_eq]
      exact gramL_nil.2 hf
  obtain ⟨S, hS⟩ : ∃ S, S = (⟨(gramL g).toArray⟩ : ByteArray) := ⟨_, rfl⟩
  obtain ⟨T, hT⟩ : ∃ T, T = (⟨(gramL h).toArray⟩ : ByteArray) := ⟨_, rfl⟩
  have HSL : Hid (S.data.toList = gramL g) := Lib.hid (by rw [hS])
  have HTL : Hid (T.data.toList = gramL h) := Lib.hid (by rw [hT])
  rw [← hS] at hT1 ⊢
  rw [← hT] at hT2 ⊢
  clear hS hT
  by_cases hfg : Formed g
  case neg =>
    rw [decide_eq_false hfg, Bool.not_false] at hT1
    clear hfg
    go_wp2_with fail
    go_ret
    exact ⟨rfl, HB3.out⟩
  have HFg := Lib.hid hfg
  rw [decide_eq_true hfg, Bool.not_true] at hT1
  clear hfg
  by_cases hfh : Formed h
  case neg =>
    rw [decide_eq_false hfh, Bool.not_false] at hT2
    clear hfh
    go_wp2_with fail
    go_ret
    exact ⟨rfl, HB3.out⟩
  have HFh := Lib.hid hfh
  rw [decide_eq_true hfh, Bool.not_true] at hT2
  clear hfh
  go_upto_region 9 with fail
  have H4 := Lib.hid (blk_below H3.out ((Below.refl w3.heap.size w3).alloc (Nat.le_refl _) (.cells #[.int .i64 g.gauge, .int .i64 g.seq, .int .i64 g.clock, .int .i64 g.value] 3)) (blk_lt H3.out))
  have K4 := Lib.hid (blk_below K3.out ((Below.refl w3.heap.size w3).alloc (Nat.le_refl _) (.cells #[.int .i64 g.gauge, .int .i64 g.seq, .int .i64 g.clock, .int .i64 g.value] 3)) (blk_lt K3.out))
  have A4 := Lib.hid (heap_alloc_new w3 (.cells #[.int .i64 g.gauge, .int .i64 g.seq, .int .i64 g.clock, .int .i64 g.value] 3))
  have HB4 := Lib.hid (HB3.out.alloc HB3.out.size (.cells #[.int .i64 g.gauge, .int .i64 g.seq, .int .i64 g.clock, .int .i64 g.value] 3))
  clear x0 x1 x2 x3 x4 y0 y1 y2 y3 y4 H3 K3 HB3
  generalize w3.alloc (.cells #[.int .i64 g.gauge, .int .i64 g.seq, .int .i64 g.clock, .int .i64 g.value] 3) = w4 at *
  generalize w3.heap.size = pa at *
  obtain ⟨y0, y1, y2, y3, y4⟩ := row5 K4.out
  go_upto_region 10 with fail
  have H5 := Lib.hid (blk_below H4.out ((Below.refl w4.heap.size w4).alloc (Nat.le_refl _) (.cells #[.int .i64 h.gauge, .int .i64 h.seq, .int .i64 h.clock, .int .i64 h.value] 3)) (blk_lt H4.out))
  have K5 := Lib.hid (blk_below K4.out ((Below.refl w4.heap.size w4).alloc (Nat.le_refl _) (.cells #[.int .i64 h.gauge, .int .i64 h.seq, .int .i64 h.clock, .int .i64 h.value] 3)) (blk_lt K4.out))
  have A5 := Lib.hid (blk_below A4.out ((Below.refl w4.heap.size w4).alloc (Nat.le_refl _) (.cells #[.int .i64 h.gauge, .int .i64 h.seq, .int .i64 h.clock, .int .i64 h.value] 3)) (blk_lt A4.out))
  have B5 := Lib.hid (heap_alloc_new w4 (.cells #[.int .i64 h.gauge, .int .i64 h.seq, .int .i64 h.clock, .int .i64 h.value] 3))
  have HB5 := Lib.hid (HB4.out.alloc HB4.out.size (.cells #[.int .i64 h.gauge, .int .i64 h.seq, .int .i64 h.clock, .int .i64 h.value] 3))
  clear y0 y1 y2 y3 y4 H4 K4 A4 HB4
  generalize w4.alloc (.cells #[.int .i64 h.gauge, .int .i64 h.seq, .int .i64 h.clock, .int .i64 h.value] 3) = w5 at *
  generalize w4.heap.size = pb at *
  obtain ⟨x0, x1, x2, x3, x4⟩ := row5 H5.out
  obtain ⟨y0, y1, y2, y3, y4⟩ := row5 K5.out
  obtain ⟨a0, a1, a2, a3⟩ := row4c A5.out
  obtain ⟨b0, b1, b2, b3⟩ := row4c B5.out
  go_wp2_with fail
  go_loopw [10] (fun iv wr => ∃ (k : Nat) (z : Int) (m : Nat), k ≤ 4 ∧ iv = .int .i64 z ∧ z = k ∧ (0 < k → g.gauge = h.gauge) ∧ (1 < k → g.seq = h.seq) ∧ (2 < k → g.clock = h.clock) ∧ (3 < k → g.value = h.value) ∧ wr = w5.drewN m) (fun iv _ => 4 - (intOf iv).toNat)
  case atStart => exact ⟨0, 0, 0, by omega, rfl, rfl, fun h => by omega, fun h => by omega, fun h => by omega, fun h => by omega, rfl⟩
  case round =>
    obtain ⟨k, z, m, hk, rfl, hz, e0, e1, e2, e3, rfl⟩ := hrel
    rcases (by omega : k = 0 ∨ k = 1 ∨ k = 2 ∨ k = 3 ∨ k = 4) with rfl | rfl | rfl | rfl | rfl
    · obtain rfl : z = 0 := hz
      clear e0 e1 e2 e3 x0 x1 x2 x3 x4 y0 y1 y2 y3 y4 hk
      by_cases heq : g.gauge = h.gauge
      · have HEQ := Lib.hid heq
        have hnn : (g.gauge != h.gauge) = false := by rw [heq]; simp
        clear heq
        go_wp2_with fail
        go_quiet (fail)
        go_wp2_with fail
        go_roundw
        case rel => exact ⟨1, 1, _, by omega, by go_num, rfl, fun _ => HEQ.out, fun h => by omega, fun h => by omega, fun h => by omega, rfl⟩
        case measure => simp [intOf]
      · have hnn : (g.gauge != h.gauge) = true := bne_iff_ne.2 heq
        have hlaw := ord_gauge HFg.out HFh.out  heq
        have hst1 : (S.toList == T.toList) = false := by
          rw [ByteArray.toList_eq, ByteArray.toList_eq, HSL.out, HTL.out]
          exact beq_eq_false_iff_ne.2 hlaw.2
        have hst2 : (S.toList != T.toList) = true := by
          rw [ByteArray.toList_eq, ByteArray.toList_eq, HSL.out, HTL.out]
          exact bne_iff_ne.2 hlaw.2
        by_cases hlt : g.gauge < h.gauge
        · have hd : decide (g.gauge < h.gauge) = true := decide_eq_true hlt
          have hls : Op.bytesLess S.toList T.toList = true := less_str S T (by rw [HSL.out, HTL.out, hlaw.1]; exact hd)
          clear hlaw heq
          go_wp2_with fail
          go_quiet (fail)
          go_wp2_with fail
          go_quiet (fail)
          go_wp2_with fail
          go_ret
          exact ⟨rfl, below_drewNo (below_drewNo (below_drewNo HB5.out _) _) _⟩
        · have hd : decide (g.gauge < h.gauge) = false := decide_eq_false hlt
          have hls : Op.bytesLess S.toList T.toList = false := less_str S T (by rw [HSL.out, HTL.out, hlaw.1]; exact hd)
          clear hlaw heq
          go_wp2_with fail
          go_quiet (fail)
          go_wp2_with fail
          go_quiet (fail)
          go_wp2_with fail
          go_ret
          exact ⟨rfl, below_drewNo (below_drewNo (below_drewNo HB5.out _) _) _⟩
    · obtain rfl : z = 1 := hz
      have E0 := Lib.hid (e0 (by omega))
      clear e0 e1 e2 e3 x0 x1 x2 x3 x4 y0 y1 y2 y3 y4 hk
      by_cases heq : g.seq = h.seq
      · have HEQ := Lib.hid heq
        have hnn : (g.seq != h.seq) = false := by rw [heq]; simp
        clear heq
        go_wp2_with fail
        go_quiet (fail)
        go_wp2_with fail
        go_roundw
        case rel => exact ⟨2, 2, _, by omega, by go_num, rfl, fun _ => E0.out, fun _ => HEQ.out, fun h => by omega, fun h => by omega, rfl⟩
        case measure => simp [intOf]
      · have hnn : (g.seq != h.seq) = true := bne_iff_ne.2 heq
        have hlaw := ord_seq HFg.out HFh.out E0.out heq
        have hst1 : (S.toList == T.toList) = false := by
          rw [ByteArray.toList_eq, ByteArray.toList_eq, HSL.out, HTL.out]
          exact beq_eq_false_iff_ne.2 hlaw.2
        have hst2 : (S.toList != T.toList) = true := by
          rw [ByteArray.toList_eq, ByteArray.toList_eq, HSL.out, HTL.out]
          exact bne_iff_ne.2 hlaw.2
        by_cases hlt : g.seq < h.seq
        · have hd : decide (g.seq < h.seq) = true := decide_eq_true hlt
          have hls : Op.bytesLess S.toList T.toList = true := less_str S T (by rw [HSL.out, HTL.out, hlaw.1]; exact hd)
          clear hlaw heq
          go_wp2_with fail
          go_quiet (fail)
          go_wp2_with fail
          go_quiet (fail)
          go_wp2_with fail
          go_ret
          exact ⟨rfl, below_drewNo (below_drewNo (below_drewNo HB5.out _) _) _⟩
        · have hd : decide (g.seq < h.seq) = false := decide_eq_false hlt
          have hls : Op.bytesLess S.toList T.toList = false := less_str S T (by rw [HSL.out, HTL.out, hlaw.1]; exact hd)
          clear hlaw heq
          go_wp2_with fail
          go_quiet (fail)
          go_wp2_with fail
          go_quiet (fail)
          go_wp2_with fail
          go_ret
          exact ⟨rfl, below_drewNo (below_drewNo (below_drewNo HB5.out _) _) _⟩
    · obtain rfl : z = 2 := hz
      have E0 := Lib.hid (e0 (by omega))
      have E1 := Lib.hid (e1 (by omega))
      clear e0 e1 e2 e3 x0 x1 x2 x3 x4 y0 y1 y2 y3 y4 hk
      by_cases heq : g.clock = h.clock
      · have HEQ := Lib.hid heq
        have hnn : (g.clock != h.clock) = false := by rw [heq]; simp
        clear heq
        go_wp2_with fail
        go_quiet (fail)
        go_wp2_with fail
        go_roundw
        case rel => exact ⟨3, 3, _, by omega, by go_num, rfl, fun _ => E0.out, fun _ => E1.out, fun _ => HEQ.out, fun h => by omega, rfl⟩
        case measure => simp [intOf]
      · have hnn : (g.clock != h.clock) = true := bne_iff_ne.2 heq
        have hlaw := ord_clock HFg.out HFh.out E0.out E1.out heq
        have hst1 : (S.toList == T.toList) = false := by
          rw [ByteArray.toList_eq, ByteArray.toList_eq, HSL.out, HTL.out]
          exact beq_eq_false_iff_ne.2 hlaw.2
        have hst2 : (S.toList != T.toList) = true := by
          rw [ByteArray.toList_eq, ByteArray.toList_eq, HSL.out, HTL.out]
          exact bne_iff_ne.2 hlaw.2
        by_cases hlt : g.clock < h.clock
        · have hd : decide (g.clock < h.clock) = true := decide_eq_true hlt
          have hls : Op.bytesLess S.toList T.toList = true := less_str S T (by rw [HSL.out, HTL.out, hlaw.1]; exact hd)
          clear hlaw heq
          go_wp2_with fail
          go_quiet (fail)
          go_wp2_with fail
          go_quiet (fail)
          go_wp2_with fail
          go_ret
          exact ⟨rfl, below_drewNo (below_drewNo (below_drewNo HB5.out _) _) _⟩
        · have hd : decide (g.clock < h.clock) = false := decide_eq_false hlt
          have hls : Op.bytesLess S.toList T.toList = false := less_str S T (by rw [HSL.out, HTL.out, hlaw.1]; exact hd)
          clear hlaw heq
          go_wp2_with fail
          go_quiet (fail)
          go_wp2_with fail
          go_quiet (fail)
          go_wp2_with fail
          go_ret
          exact ⟨rfl, below_drewNo (below_drewNo (below_drewNo HB5.out _) _) _⟩
    · obtain rfl : z = 3 := hz
      have E0 := Lib.hid (e0 (by omega))
      have E1 := Lib.hid (e1 (by omega))
      have E2 := Lib.hid (e2 (by omega))
      clear e0 e1 e2 e3 x0 x1 x2 x3 x4 y0 y1 y2 y3 y4 hk
      by_cases heq : g.value = h.value
      · have HEQ := Lib.hid heq
        have hnn : (g.value != h.value) = false := by rw [heq]; simp
        clear heq
        go_wp2_with fail
        go_quiet (fail)
        go_wp2_with fail
        go_roundw
        case rel => exact ⟨4, 4, _, by omega, by go_num, rfl, fun _ => E0.out, fun _ => E1.out, fun _ => E2.out, fun _ => HEQ.out, rfl⟩
        case measure => simp [intOf]
      · have hnn : (g.value != h.value) = true := bne_iff_ne.2 heq
        have hlaw := ord_value HFg.out HFh.out E0.out E1.out E2.out heq
        have hst1 : (S.toList == T.toList) = false := by
          rw [ByteArray.toList_eq, ByteArray.toList_eq, HSL.out, HTL.out]
          exact beq_eq_false_iff_ne.2 hlaw.2
        have hst2 : (S.toList != T.toList) = true := by
          rw [ByteArray.toList_eq, ByteArray.toList_eq, HSL.out, HTL.out]
          exact bne_iff_ne.2 hlaw.2
        by_cases hlt : g.value < h.value
        · have hd : decide (g.value < h.value) = true := decide_eq_true hlt
          have hls : Op.bytesLess S.toList T.toList = true := less_str S T (by rw [HSL.out, HTL.out, hlaw.1]; exact hd)
          clear hlaw heq
          go_wp2_with fail
          go_quiet (fail)
          go_wp2_with fail
          go_quiet (fail)
          go_wp2_with fail
          go_ret
          exact ⟨rfl, below_drewNo (below_drewNo (below_drewNo HB5.out _) _) _⟩
        · have hd : decide (g.value < h.value) = false := decide_eq_false hlt
          have hls : Op.bytesLess S.toList T.toList = false := less_str S T (by rw [HSL.out, HTL.out, hlaw.1]; exact hd)
          clear hlaw heq
          go_wp2_with fail
          go_quiet (fail)
          go_wp2_with fail
          go_quiet (fail)
          go_wp2_with fail
          go_ret
          exact ⟨rfl, below_drewNo (below_drewNo (below_drewNo HB5.out _) _) _⟩
    · obtain rfl : z = 4 := hz
      have E0 := Lib.hid (e0 (by omega))
      have E1 := Lib.hid (e1 (by omega))
      have E2 := Lib.hid (e2 (by omega))
      have E3 := Lib.hid (e3 (by omega))
      clear e0 e1 e2 e3 a0 a1 a2 a3 b0 b1 b2 b3 hk
      have hlaw := ord_tag HFg.out HFh.out E0.out E1.out E2.out E3.out
      have heq := eqG g.gauge g.seq g.clock g.value h.gauge h.seq h.clock h.value g.tag h.tag
      by_cases htt : g.tag = h.tag
      · rw [decide_eq_true ⟨E0.out, E1.out, E2.out, E3.out, htt⟩] at heq
        have hst1 : (S.toList == T.toList) = true := by
          rw [ByteArray.toList_eq, ByteArray.toList_eq, HSL.out, HTL.out]
          exact beq_iff_eq.2 (hlaw.2.2 htt)
        have hls : Op.bytesLess S.toList T.toList = false := less_str S T (by rw [HSL.out, HTL.out, hlaw.2.2 htt]; exact decide_eq_false (List.lt_irrefl _))
        have hlt : Op.bytesLess g.tag.toList h.tag.toList = false := less_str _ _ (by rw [htt]; exact decide_eq_false (List.lt_irrefl _))
        clear hlaw htt
        go_wp2_with fail
        go_ret
        exact ⟨rfl, below_drewNo HB5.out _⟩
      · rw [decide_eq_false (fun h => htt h.2.2.2.2)] at heq
        have hst1 : (S.toList == T.toList) = false := by
          rw [ByteArray.toList_eq, ByteArray.toList_eq, HSL.out, HTL.out]
          exact beq_eq_false_iff_ne.2 (fun e => htt (hlaw.2.1 e))
        by_cases hl : g.tag.data.toList < h.tag.data.toList
        · have hls : Op.bytesLess S.toList T.toList = true := less_str S T (by rw [HSL.out, HTL.out, hlaw.1]; exact decide_eq_true hl)
          have hlt : Op.bytesLess g.tag.toList h.tag.toList = true := less_str _ _ (decide_eq_true hl)
          clear hlaw htt hl
          go_wp2_with fail
          go_ret
          exact ⟨rfl, below_drewNo HB5.out _⟩
        · have hls : Op.bytesLess S.toList T.toList = false := less_str S T (by rw [HSL.out, HTL.out, hlaw.1]; exact decide_eq_false hl)
          have hlt : Op.bytesLess g.tag.toList h.tag.toList = false := less_str _ _ (decide_eq_false hl)
          clear hlaw htt hl
          go_wp2_with fail
          go_ret
          exact ⟨rfl, below_drewNo HB5.out _⟩
end Go.Proofs.YtmlfkhpmgjcliaaDoor
