/- cast.Bytes: news as bytes. -/
import Derived.Test.YtleiiedacachjaaKLaw
import Derived.Test.YtleiiedacachjaaLoad
namespace Go.Proofs.Ytleiiedacachjaa
open Go.RowKit
theorem und4 : Try.prog.underlying 78 = some (.array 4 3) := by kernel_rfl
theorem undI4 : Try.prog.underlying 3 = some (.int .i64) := by kernel_rfl
theorem index4 (a b c d : Int) (j : Nat) (hj : j < 4) (w : World) : (Instr.index 78 (.agg #[.int .i64 a, .int .i64 b, .int .i64 c, .int .i64 d]) (.int .i64 (j : Int))).run Try.prog w = .ok (.int .i64 ([a, b, c, d][j]?.getD 0)) w := by
  have hs : (Try.prog.info? 3).map (·.size) = some 1 := by kernel_rfl
  cases hq : Try.prog.info? 3 with
  | none => rw [hq] at hs; cases hs
  | some i =>
    have hs' : i.size = 1 := by simpa [hq] using hs
    match j, hj with
    | 0, _ => simp [Instr.index, asIntOf, run_underlying und4, sizeOf, typeInfo, hq, hs', part, isAgg, run_underlying undI4]
    | 1, _ => simp [Instr.index, asIntOf, run_underlying und4, sizeOf, typeInfo, hq, hs', part, isAgg, run_underlying undI4]
    | 2, _ => simp [Instr.index, asIntOf, run_underlying und4, sizeOf, typeInfo, hq, hs', part, isAgg, run_underlying undI4]
    | 3, _ => simp [Instr.index, asIntOf, run_underlying und4, sizeOf, typeInfo, hq, hs', part, isAgg, run_underlying undI4]
theorem undSp : Try.prog.underlying 54 = some (.struct (Try.prog.fieldsOf 54)) := by kernel_rfl
theorem infoSp : (Try.prog.info? 54).map (·.size) = some 2 := by kernel_rfl
theorem infoIn : (Try.prog.info? 3).map (fun i => (i.zero, i.size, i.bytes)) = some (some (.int .i64 0), 1, 8) := by kernel_rfl
theorem undIs : Try.prog.underlying 36 = some (.slice 3) := by kernel_rfl
theorem pair_new (w : World) (a b : Int) : ∀ j u, ([Value.int .i64 a, .int .i64 b])[j]? = some u → (w.alloc (.cells #[.int .i64 a, .int .i64 b] 3)).cell? ((⟨w.heap.size, 0, none⟩ : Addr).add j) = some u := fun j u hj => by
  rw [Addr.add_mid, Nat.zero_add, cell_of_row _ _ _ _ _ _ (heap_alloc_new w (.cells #[.int .i64 a, .int .i64 b] 3)), ← Array.getElem?_toList]
  exact hj
/-- blocks that are neither the builder's nor its buffer stay -/
def KeepB (b : Nat) (w w' : World) : Prop := ∀ k, k < w.heap.size → k ≠ b → (∀ p v, w.heap[b]? = some (.cells #[p, v] 77 (0, 0)) → v.ownBlock ≠ some k) → w'.heap[k]? = w.heap[k]?
set_option maxRecDepth 100000 in
theorem copyCheck_keep (B b : Nat) (bs : List Value) (w : World) (h : Lib.IsBuilder 77 5 B b bs w) :
    Calls Try.prog 50 #[.pointer (some ⟨b, 0, none⟩)] w fun e w' => e = .returned (.tuple #[]) ∧ (Lib.BuilderAt 77 5 B b (.pointer (some ⟨b, 0, none⟩)) bs w' ∧ Below B w w') ∧ w'.heap.size = w.heap.size ∧ (∀ k, k ≠ b → w'.heap[k]? = w.heap[k]?) ∧
      ∃ p v, w.heap[b]? = some (.cells #[p, v] 77 (0, 0)) ∧ w'.heap[b]? = some (.cells #[.pointer (some ⟨b, 0, none⟩), v] 77 (0, 0)) := by
  rcases h with h | h
  · refine (copyCheck_fresh b w h.cell0 h.shape h.frozen0).mono ?_
    rintro e w' ⟨rfl, rfl⟩
    obtain ⟨_, v, hb, _⟩ := id h
    exact ⟨rfl, ⟨h.used _, (Below.refl B w).setCell (p := ⟨b, 0, none⟩) h.1 _⟩, World.size_setCell _ _ _, (fun k hk => heap_setCell_other _ _ _ _ hk), _, v, hb, (heap_setCell_same _ _ _ _ _ _ hb).trans rfl⟩
  · refine (copyCheck_used b w h.cell0).mono ?_
    rintro e w' ⟨rfl, rfl⟩
    obtain ⟨_, v, hb, _⟩ := id h
    exact ⟨rfl, ⟨h, Below.refl B _⟩, rfl, fun k _ => rfl, _, v, hb, hb⟩
set_option maxHeartbeats 2000000 in
set_option maxRecDepth 100000 in
theorem writeByte_keep (B b : Nat) (bs : List Value) (c : Int) (w : World) (h : Lib.IsBuilder 77 5 B b bs w) (hlen : bs.length + 1 ≤ 140737488355328) (hBw : B ≤ w.heap.size) :
    Calls Try.prog 36 #[.pointer (some ⟨b, 0, none⟩), .int .u8 c] w fun e w' => e = .returned .nilIface ∧ (Lib.BuilderAt 77 5 B b (.pointer (some ⟨b, 0, none⟩)) (bs ++ [.int .u8 c]) w' ∧ Below B w w') ∧ KeepB b w w' := by
  obtain ⟨i0, hi, hz0, hz1, hz2⟩ := info_parts infoB
  go_enter Try.func36, Try.ntmps36
  go_wp2_with fail
  refine (copyCheck_keep B b bs _ h).mono ?_
  rintro e w1 ⟨rfl, ⟨h1, hb1⟩, hsz1, hk1, p1, v1, hk2, hk3⟩
  obtain ⟨hB, v, hbk, hown, hne⟩ := h1
  have hvv : v1 = v := by
    rw [hk3] at hbk
    simp only [Option.some.injEq, Obj.cells.injEq, and_true, Array.mk.injEq, List.cons.injEq, true_and] at hbk
    exact hbk
  subst hvv
  have c0 : w1.cell? ⟨b, 0, none⟩ = some (.pointer (some ⟨b, 0, none⟩)) := by rw [Lib.cell_of_heap hbk]; rfl
  have c1 : w1.cell? ⟨b, 1, none⟩ = some v1 := by rw [Lib.cell_of_heap hbk]; rfl
  have HK1 := Lib.hid hk1
  have HK2 := Lib.hid hk2
  have HSZ := Lib.hid hsz1
  clear hk1 hk2 hk3 hsz1
  go_wp2_with (at_builtin; refine wpList_append_own _ rfl _ _ 75 rfl B 5 i0 (.int .u8 0) 1 1 undBs hi hz0 hz1 hz2 rfl (by decide) _ _ _ rfl (hown.alloc _) ⟨w1.heap.size, 0, none⟩ 1 1 [.int .u8 c] rfl rfl ?c1 ?c2 ?c3 ?c4 ?c5 ?_)
  case c1 => exact cells_new _ _ _
  case c2 => intro u hu; simp at hu; subst hu; rfl
  case c3 => unfold maxLen; omega
  case c4 => omega
  case c5 => have := hb1.size; simp; omega
  intro v' w2 hown' hgrow _
  have hlt : b < w1.heap.size := blk_lt hbk
  have hb2 : w2.heap[b]? = some (.cells #[.pointer (some ⟨b, 0, none⟩), v1] 77 (0, 0)) := by
    rw [hgrow.block b (by simp; omega) (fun e => hne e.symm), Lib.alloc_old w1 _ b hlt]
    exact hbk
  have d0 : w2.cell? ⟨b, 0, none⟩ = some (.pointer (some ⟨b, 0, none⟩)) := by rw [Lib.cell_of_heap hb2]; rfl
  have d1 : w2.cell? ⟨b, 1, none⟩ = some v1 := by rw [Lib.cell_of_heap hb2]; rfl
  have f1 : w2.frozen? ⟨b, 1, none⟩ = false := Lib.frozen_of_heap hb2 1
  obtain ⟨g, cap, rfl⟩ : ∃ g cap, v' = .slice (some ⟨g, 0, none⟩) (bs.length + 1) cap := by
    rcases hown'.2 with ⟨_, h0⟩ | ⟨g, cap, cur, hv, _⟩
    · omega
    · exact ⟨g, cap, hv⟩
  go_wp2
  go_ret
  refine ⟨rfl, ⟨?_, ?_⟩, ?_⟩
  · exact Lib.BuilderAt.put (T := 77) (e := 5) hB hb2 (bs' := bs ++ [.int .u8 c]) (by simpa using hown') (by decide)
  · exact ((hb1.alloc (by have := hb1.size; omega) _).grown hgrow (by have := hb1.size; simp; omega) (fun k hk => (hown.lt k hk).1)).setCell (p := ⟨b, 1, none⟩) hB _
  · intro k hkl hkb hkv
    have h9 := HSZ.out
    have h8 := hkv _ _ HK2.out
    rw [heap_setCell_other _ _ _ _ hkb, hgrow.block k (by simp; omega) (fun e => h8 e.symm), Lib.alloc_old w1 _ k (by omega)]
    exact HK1.out k hkb
/-- what a slice of the call's own, made after the builder, holds: kept -/
theorem keep_row {B b : Nat} {bs : List Value} {w2 w w' : World} {e : TypeId} {n size : Nat} {v : Value} {xs : List Value} (h2 : Lib.IsBuilder 77 5 B b bs w2) (hb : Below w2.heap.size w2 w) (hk : KeepB b w w') (ho : w.ownsRow w2.heap.size e size v n xs) : w'.ownsRow w2.heap.size e size v n xs := by
  obtain ⟨p0, v0, hbk, hown⟩ : ∃ p0 v0, w2.heap[b]? = some (.cells #[p0, v0] 77 (0, 0)) ∧ w2.ownsRow B 5 1 v0 bs.length bs := by
    rcases h2 with ⟨_, v, h1, h3, _⟩ | ⟨_, v, h1, h3, _⟩
    · exact ⟨_, v, h1, h3⟩
    · exact ⟨_, v, h1, h3⟩
  have hbl := blk_lt hbk
  have hbk' := blk_below hbk hb hbl
  refine ⟨ho.1, ho.2.imp id fun ⟨g, cap, cur, h1, h4, h5, h6⟩ => ⟨g, cap, cur, h1, h4, ?_, h6⟩⟩
  have hg : w'.heap[g]? = w.heap[g]? := hk g (blk_lt h5) (by omega) (fun p v hv => by
    rw [hbk'] at hv
    simp only [Option.some.injEq, Obj.cells.injEq, and_true, Array.mk.injEq, List.cons.injEq] at hv
    obtain ⟨_, rfl⟩ := hv
    intro e
    have := (hown.lt g e).2
    omega)
  rw [hg]
  exact h5
abbrev BT := Lib.IsBuilder 77 5
set_option maxRecDepth 100000 in
set_option maxHeartbeats 4000000 in
theorem cbytes_any (n : NewsV) (v0 : Value) (w : World) (hr : LArg (RList RSpan 2) 1 v0 n.cast.rain w) (hN : I64n n) (hsp : ∀ r ∈ n.cast.rain, SpanI r) (hl : n.cast.rain.length ≤ 30) (hq : ∀ r ∈ n.cast.rain, r.length ≤ 70) :
    Calls Try.prog 14 #[.agg #[.int .i64 n.kind, .int .i64 n.known, .int .i64 n.cast.id, .int .i64 n.cast.src, v0]] w fun e w' => e = .returned (.string ⟨(newsB n).toArray⟩) ∧ Below w.heap.size w w' := by
  obtain ⟨iI, hiI, hzI, hsI, hbI⟩ := info_parts infoIn
  obtain ⟨a0, q0, rfl, -, -⟩ := hr.slice
  have HR := Lib.hid hr
  have HN := Lib.hid hN
  have HSP := Lib.hid hsp
  have HQ := Lib.hid hq
  clear hr hN hsp hq
  have HHL : Hid (∀ k, (headK n k).length ≤ 36) := Lib.hid fun k => headK_len HN.out k
  have HJL : Hid (∀ k, (joinPre rowB (n.cast.rain.take k)).length ≤ 50000) := Lib.hid fun k => by
    have h1 := joinPre_len rowB 1402 (n.cast.rain.take k) (fun r hr => by
      have hm := List.mem_of_mem_take hr
      have := rowB_len (HSP.out r hm) (HQ.out r hm)
      omega)
    have h2 : (n.cast.rain.take k).length ≤ 30 := Nat.le_trans (List.length_take_le' _ _) hl
    have h3 := Nat.mul_le_mul_right 1402 h2
    omega
  go_enter Try.func14, Try.ntmps14
  go_upto_region 1 with fail
  have Nh0 := Lib.hid (heap_alloc_new w (.cells #[.int .i64 n.kind, .int .i64 n.known, .int .i64 n.cast.id, .int .i64 n.cast.src, .slice a0 n.cast.rain.length q0] 29))
  have HB0 := Lib.hid ((Below.refl w.heap.size w).alloc (Nat.le_refl _) (.cells #[.int .i64 n.kind, .int .i64 n.known, .int .i64 n.cast.id, .int .i64 n.cast.src, .slice a0 n.cast.rain.length q0] 29))
  generalize w.alloc (.cells #[.int .i64 n.kind, .int .i64 n.known, .int .i64 n.cast.id, .int .i64 n.cast.src, .slice a0 n.cast.rain.length q0] 29) = w0 at *
  have HR0 := Lib.hid (HR.out.below (stays_list stays_Span 2) HB0.out)
  clear HR
  go_upto_region 2 with fail
  have hI := Lib.fresh_isBuilder 77 5 w0
  have hB0 : Below w0.heap.size w0 (w0.alloc (.cells #[.pointer none, .slice none 0 0] 77)) := (Below.refl _ _).alloc (Nat.le_refl _) _
  have HI0 := Lib.hid hI
  have HB1 := Lib.hid hB0
  have Nh1 := Lib.hid (blk_below Nh0.out hB0 (blk_lt Nh0.out))
  clear hI hB0
  generalize w0.alloc (.cells #[.pointer none, .slice none 0 0] 77) = w1 at *
  have c0 := rowN Nh1.out 0 (.int .i64 n.kind) rfl
  have c1 := rowN Nh1.out 1 (.int .i64 n.known) rfl
  have c2 := rowN Nh1.out 2 (.int .i64 n.cast.id) rfl
  have c3 := rowN Nh1.out 3 (.int .i64 n.cast.src) rfl
  go_wp2_with fail
  clear c0 c1 c2 c3 Nh1
  go_loopw [22] (fun iv wr => ∃ k : Nat, k ≤ 4 ∧ iv = .int .i64 k ∧ BT w0.heap.size w0.heap.size (Lib.byteCells (headK n k)) wr ∧ Below w0.heap.size w0 wr) (fun iv _ => 4 - (intOf iv).toNat)
  case atStart => exact ⟨0, by omega, rfl, HI0.out, HB1.out⟩
  case round =>
    obtain ⟨k, hk, rfl, hI, hB⟩ := hrel
    clear HI0 HB1
    have HI := Lib.hid hI
    have HB := Lib.hid hB
    have hsz := hB.size
    clear hI hB
    by_cases hlt : k < 4
    · have hix := fun w => index4 n.known n.kind n.cast.id n.cast.src k hlt w
      obtain ⟨x, hx⟩ : ∃ x, (heads n)[k]? = some x := ⟨_, List.getElem?_eq_getElem (show k < (heads n).length from hlt)⟩
      have hx2 : [n.known, n.kind, n.cast.id, n.cast.src][k]?.getD 0 = x := by
        have : [n.known, n.kind, n.cast.id, n.cast.src][k]? = some x := hx
        rw [this]
        rfl
      rw [hx2] at hix
      have HS := Lib.hid (headK_succ hx)
      have HXI := Lib.hid (heads_I HN.out x (List.mem_of_getElem? hx))
      clear hx hx2
      go_wp2_with fail
      clear hix
      refine (int_any x _ HXI.out).mono ?_
      rintro e w2 ⟨rfl, hb⟩
      have HI2 := Lib.hid (builder_up HI.out hb)
      have HB2 := Lib.hid (HB.out.trans (hb.mono HB.out.size))
      clear hb
      go_wp2_with fail
      refine (writeString_any w0.heap.size w0.heap.size _ _ _ HI2.out (by
        have h5 := HHL.out (k + 1)
        rw [HS.out] at h5
        rw [Lib.byteCells_length]
        simp only [List.length_append] at h5
        rw [show (ByteArray.mk ((intL x).toArray)).size = (intL x).length from rfl]
        omega) HB2.out.size).mono ?_
      rintro e w3 ⟨rfl, hI3, hB3⟩
      have HI3 : Hid (BT w0.heap.size w0.heap.size (Lib.byteCells (headK n (k + 1))) w3) := by
        refine Lib.hid (Or.inr ?_)
        rw [HS.out]
        rw [strCells_byteCells] at hI3
        have e : Lib.byteCells (headK n k ++ intL x) = Lib.byteCells (headK n k) ++ Lib.byteCells (intL x) := by
          simp [Lib.byteCells]
        rw [e]
        exact hI3
      have HB3 := Lib.hid (HB2.out.trans hB3)
      clear hI3 hB3
      go_wp2_with fail
      go_roundw
      case rel => exact ⟨k + 1, by omega, by go_num, HI3.out, HB3.out⟩
      case measure => simp [intOf]; omega
    · obtain rfl : k = 4 := by omega
      have Nh2 := Lib.hid (blk_below Nh0.out HB.out (blk_lt Nh0.out))
      have c4 := rowN Nh2.out 4 (.slice a0 n.cast.rain.length q0) rfl
      clear hlt hk
      go_wp2_with fail
      clear c4 Nh2
      go_loopw [33] (fun iv wx => ∃ k : Nat, k ≤ n.cast.rain.length ∧ iv = .int .i64 k ∧ BT w0.heap.size w0.heap.size (Lib.byteCells (headB n ++ joinPre rowB (n.cast.rain.take k))) wx ∧ Below w0.heap.size w0 wx) (fun iv _ => n.cast.rain.length - (intOf iv).toNat)
      case atStart => exact ⟨0, by omega, rfl, by have h := HI.out; rw [headK_all] at h; simpa [joinPre] using h, HB.out⟩
      case round =>
        rename World => w2
        obtain ⟨k, hk, rfl, hI, hB⟩ := hrel
        clear HI HB hsz
        have HI := Lib.hid hI
        have HB := Lib.hid hB
        have hsz := hB.size
        clear hI hB
        by_cases hlt : k < n.cast.rain.length
        · obtain ⟨r, hrr⟩ : ∃ r, n.cast.rain[k]? = some r := ⟨_, List.getElem?_eq_getElem hlt⟩
          obtain ⟨g, o, cs, ha, hbl, -, hrg, v, rfl, hrow⟩ := (HR0.out.below (stays_list stays_Span 2) HB.out).at hrr
          subst ha
          obtain ⟨a1, q1, rfl, -, -⟩ := hrow.slice
          have c0 := hrg 0 _ rfl
          simp only [Nat.mul_one, Nat.add_zero] at c0
          have hm := List.mem_of_getElem? hrr
          have hq1 := HQ.out r hm
          have HSI := Lib.hid (HSP.out r hm)
          have HROW := Lib.hid hrow
          have HS := Lib.hid (joinPre_snoc rowB n.cast.rain k r hrr)
          clear hrg hrow hrr hm
          go_upto_region 11 with (at_make; refine wpList_make_own _ rfl _ _ 36 rfl w2.heap.size 3 iI (.int .i64 0) 1 undIs hiI hzI hsI .i64 .i64 _ (2 * r.length) rfl rfl (by omega) (by rw [hbI]; omega) (by unfold maxLen; omega) (Nat.le_refl _) ?_; intro w3 hown hgr)
          have HBm : Hid (Below w2.heap.size w2 w3) := Lib.hid ((Below.refl w2.heap.size w2).grown hgr (Nat.le_refl _) (fun k e => by cases e))
          have HO0 := Lib.hid hown
          clear hown hgr c0
          go_wp2_with fail
          go_loopw [8, 43] (fun v iv wy => ∃ j : Nat, j ≤ r.length ∧ iv = .int .i64 j ∧ wy.ownsRow w2.heap.size 3 1 v (2 * j) ((endsL (r.take j)).map (Value.int .i64)) ∧ Below w2.heap.size w2 wy) (fun _ iv _ => r.length - (intOf iv).toNat)
          case atStart => exact ⟨0, by omega, rfl, HO0.out, HBm.out⟩
          case round =>
            obtain ⟨j, hj, rfl, hown, hBy⟩ := hrel
            clear HO0 HBm
            have HO := Lib.hid hown
            have HBy := Lib.hid hBy
            clear hown hBy
            by_cases hjl : j < r.length
            · obtain ⟨s, hs⟩ : ∃ s, r[j]? = some s := ⟨_, List.getElem?_eq_getElem hjl⟩
              obtain ⟨g1, o1, cs1, ha1, hbl1, -, hrg1, hcs1⟩ := (HROW.out.below stays_Span HBy.out).at hs
              subst ha1
              obtain ⟨rfl, -, -⟩ := hcs1
              have HE := Lib.hid (ends_take hs)
              have HRG := Lib.hid hrg1
              clear hrg1 hs
              have HS3 := Lib.hid (heap_alloc_new wr (.cells #[.int .i64 s.lo, .int .i64 s.hi] 54))
              have HB3 := Lib.hid (HBy.out.alloc HBy.out.size (.cells #[.int .i64 s.lo, .int .i64 s.hi] 54))
              have HO3 := Lib.hid (HO.out.alloc (.cells #[.int .i64 s.lo, .int .i64 s.hi] 54))
              go_upto_region 14 with (refine wpList_load_range (by first | (go_simp; done) | rfl) 54 _ rfl _ _ rfl _ _ HRG.out undSp rfl infoSp ?_)
              generalize wr.alloc (.cells #[.int .i64 s.lo, .int .i64 s.hi] 54) = w4 at *
              generalize wr.heap.size = bsp at *
              have c0 := rowN HS3.out 0 (.int .i64 s.lo) rfl
              have c1 := rowN HS3.out 1 (.int .i64 s.hi) rfl
              have hnew := pair_new w4 s.lo s.hi
              have HO4 := Lib.hid (HO3.out.alloc (.cells #[.int .i64 s.lo, .int .i64 s.hi] 3))
              have HB4 := Lib.hid (HB3.out.alloc HB3.out.size (.cells #[.int .i64 s.lo, .int .i64 s.hi] 3))
              go_wp2_with (at_builtin; refine Hid.out ?_)
              refine Lib.hid ?_
              refine wpList_append_own _ rfl _ _ 36 rfl w2.heap.size 3 iI (.int .i64 0) 1 8 undIs hiI hzI hsI hbI rfl (by decide) _ (2 * j) _ rfl HO4.out ⟨w4.heap.size, 0, none⟩ 2 2 [.int .i64 s.lo, .int .i64 s.hi] rfl rfl hnew (by simp [Value.oneCell']) (by unfold maxLen; omega) (by omega) HB4.out.size ?_
              intro v' w5 hown5 hgr5 _
              have HO5 : Hid (w5.ownsRow w2.heap.size 3 1 v' (2 * (j + 1)) ((endsL (r.take (j + 1))).map (Value.int .i64))) := Lib.hid (by
                rw [HE.out, List.map_append]
                exact hown5)
              have HB5 : Hid (Below w2.heap.size w2 w5) := Lib.hid (HB4.out.grown hgr5 HB4.out.size (fun q e => (HO4.out.lt q e).1))
              clear hown5 hgr5 hnew HO4 HB4 HO3 HB3 HS3 HO HBy HRG c0 c1
              go_wp2_with fail
              go_roundw
              case rel => exact ⟨j + 1, by omega, by go_num, HO5.out, HB5.out⟩
              case measure => simp [intOf]; omega
            · obtain rfl : j = r.length := by omega
              rw [List.take_length] at HO
              have HI1 := Lib.hid (builder_up HI.out HBy.out)
              have HB1 := Lib.hid (HB.out.trans (HBy.out.mono HB.out.size))
              clear hj hjl
              go_wp2_with fail
              refine (writeByte_keep w0.heap.size w0.heap.size _ 1 _ HI1.out (by rw [Lib.byteCells_length, List.length_append, ← headK_all]; have := HJL.out k; have := HHL.out 4; omega) HB1.out.size).mono ?_
              rintro e w4 ⟨rfl, ⟨hI3, hB3⟩, hkp⟩
              have HC := Lib.hid (CArg.of_owns (enc := Value.int .i64) (xs := endsL r) (ends_len r) (keep_row HI.out HBy.out hkp HO.out))
              have HI3 := Lib.hid hI3
              have HB3 := Lib.hid (HB1.out.trans hB3)
              clear hI3 hB3 hkp HI HBy HO HI1 HB1 HB
              go_wp2_with fail
              refine (nums_any _ (endsL r) _ HC.out (by rw [ends_len]; omega) (ends_I HSI.out)).mono ?_
              rintro e w5 ⟨rfl, hb⟩
              have HI4 := Lib.hid (builderAt_up HI3.out hb)
              have HB4 := Lib.hid (HB3.out.trans (hb.mono HB3.out.size))
              clear hb HC HI3 HB3
              go_wp2_with fail
              refine (writeString_any w0.heap.size w0.heap.size _ _ _ (Or.inr HI4.out) (by
                have h5 := HJL.out (k + 1)
                rw [HS.out] at h5
                have h6 := HHL.out 4
                rw [headK_all] at h6
                rw [List.length_append, Lib.byteCells_length]
                simp only [List.length_append, List.length_cons, List.length_nil] at h5 ⊢
                rw [show (ByteArray.mk ((joinL intL (endsL r)).toArray)).size = (rowB r).length from rfl]
                omega) HB4.out.size).mono ?_
              rintro e w6 ⟨rfl, hI6, hB6⟩
              have HI6 : Hid (BT w0.heap.size w0.heap.size (Lib.byteCells (headB n ++ joinPre rowB (n.cast.rain.take (k + 1)))) w6) := by
                refine Lib.hid (Or.inr ?_)
                rw [HS.out]
                rw [strCells_byteCells] at hI6
                have e : Lib.byteCells (headB n ++ (joinPre rowB (n.cast.rain.take k) ++ (1 :: rowB r))) = (Lib.byteCells (headB n ++ joinPre rowB (n.cast.rain.take k)) ++ [.int .u8 1]) ++ Lib.byteCells (rowB r) := by
                  simp [Lib.byteCells]
                rw [e]
                exact hI6
              have HB6 := Lib.hid (HB4.out.trans hB6)
              clear hI6 hB6
              go_wp2_with fail
              go_roundw
              case rel => (repeat apply Exists.intro); exact ⟨⟨k + 1, by omega, by go_num, HI6.out, HB6.out⟩, rfl⟩
              case measure => simp [intOf]; omega
        · obtain rfl : k = n.cast.rain.length := by omega
          have hlx := HJL.out n.cast.rain.length
          rw [List.take_length] at HI hlx
          have hhx := HHL.out 4
          rw [headK_all] at hhx
          clear hlt hk
          go_wp2_with fail
          refine (writeByte_any w0.heap.size w0.heap.size _ 0 _ HI.out (by rw [Lib.byteCells_length, List.length_append]; omega) hsz).mono ?_
          rintro e w4 ⟨rfl, hI1, hB1⟩
          have HI1 : Hid (BT w0.heap.size w0.heap.size (Lib.byteCells (newsB n)) w4) := by
            refine Lib.hid (Or.inr ?_)
            unfold newsB
            rw [joinL_pre, ← List.append_assoc, byteCells_append]
            exact hI1
          have HB1 := Lib.hid (HB.out.trans hB1)
          clear hI1 hB1
          go_wp2_with fail
          refine (Try.Builder_String_any _ _ _ _ HI1.out HB1.out.size).mono ?_
          rintro e w5 ⟨rfl, hb⟩
          have HB2 := Lib.hid (HB0.out.trans ((HB1.out.trans hb).mono HB0.out.size))
          clear hb
          go_wp2_with fail
          go_ret
          exact ⟨rfl, HB2.out⟩
end Go.Proofs.Ytleiiedacachjaa
