/- digest.compress returns the state after one block of BLAKE2s, as the plain function compL says. -/
import Derived.RegionTactic
import Derived.Test.YtepidpegoihllaaGreatDoorWords
namespace Go.Proofs.YtepidpegoihllaaGreatDoor
open Go.RowKit
def startL : List Int := [1779033703, 3144134277, 1013904242, 2773480762, 1359893119, 2600822924, 528734635, 1541459225]
def ordL : List (List Int) := [[0, 1, 2, 3, 4, 5, 6, 7, 8, 9, 10, 11, 12, 13, 14, 15],
  [14, 10, 4, 8, 9, 15, 13, 6, 1, 12, 0, 2, 11, 7, 5, 3],
  [11, 8, 12, 0, 5, 2, 15, 13, 10, 14, 3, 6, 7, 1, 9, 4],
  [7, 9, 3, 1, 13, 12, 11, 14, 2, 6, 5, 10, 4, 0, 15, 8],
  [9, 0, 5, 7, 2, 4, 10, 15, 14, 1, 11, 12, 6, 8, 3, 13],
  [2, 12, 6, 10, 0, 11, 8, 3, 4, 13, 7, 5, 15, 14, 1, 9],
  [12, 5, 1, 15, 14, 13, 4, 10, 0, 7, 6, 3, 9, 2, 8, 11],
  [13, 11, 7, 14, 12, 1, 3, 9, 5, 0, 15, 4, 8, 6, 2, 10],
  [6, 15, 14, 9, 11, 3, 0, 8, 12, 2, 13, 7, 1, 4, 10, 5],
  [10, 2, 8, 4, 7, 6, 1, 5, 15, 11, 9, 14, 3, 12, 13, 0]]
def ord (r k : Nat) : Int := (ordL[r]?.getD [])[k]?.getD 0
def ordRow (r : Nat) : List Value := (ordL[r]?.getD []).map (Value.int .u8)
/-- the two package-level tables, where the program's text lays them -/
structure Glob (w : World) : Prop where
  start : w.rangeAt 0 0 (startL.map (Value.int .u32))
  orders : ∀ r, r < 10 → w.rangeAt 1 (r * 16) (ordRow r)
  size : 1 + 1 ≤ w.heap.size
theorem Glob.below {w w' : World} {B : Nat} (h : Glob w) (hb : Below B w w') (hB : 1 + 1 ≤ B) : Glob w' :=
  ⟨rangeAt_below h.start hb (by omega), fun r hr => rangeAt_below (h.orders r hr) hb (by omega), Nat.le_trans h.size hb.size⟩
def vInit (h : List Int) : Nat → List Int
  | 0 => List.replicate 16 0
  | k + 1 => ((vInit h k).set k (h[k]?.getD 0)).set (k + 8) (startL[k]?.getD 0)
theorem vInit_len (h : List Int) (k : Nat) : (vInit h k).length = 16 := by
  induction k with
  | zero => rfl
  | succ k ih => simp [vInit, ih]
theorem startL_32 : W32 startL := (.cons (by decide) (by decide) (.cons (by decide) (by decide) (.cons (by decide) (by decide) (.cons (by decide) (by decide) (.cons (by decide) (by decide) (.cons (by decide) (by decide) (.cons (by decide) (by decide) (.cons (by decide) (by decide) .nil))))))))
theorem vInit_32 {h : List Int} (hh : W32 h) (k : Nat) : W32 (vInit h k) := by
  induction k with
  | zero => exact W32.replicate 16
  | succ k ih => exact (ih.set _ (hh k).1 (hh k).2).set _ (startL_32 k).1 (startL_32 k).2
def vMark (v : List Int) (t : Int) (last : Bool) : List Int :=
  let v1 := v.set 12 (bits BinOp.xor IntKind.u32 (v[12]?.getD 0) (t % 4294967296))
  let v2 := v1.set 13 (bits BinOp.xor IntKind.u32 (v1[13]?.getD 0) (t / 4294967296))
  if last then v2.set 14 (4294967295 - v2[14]?.getD 0) else v2
theorem vMark_len (v : List Int) (t : Int) (last : Bool) : (vMark v t last).length = v.length := by
  cases last <;> simp [vMark]
theorem vMark_32 {v : List Int} (h : W32 v) (t : Int) (last : Bool) : W32 (vMark v t last) := by
  cases last
  · exact (h.set _ (bits_lo_u32 _ _ _) (bits_hi_u32 _ _ _)).set _ (bits_lo_u32 _ _ _) (bits_hi_u32 _ _ _)
  · have h2 := (h.set 12 (bits_lo_u32 .xor (v[12]?.getD 0) (t % 4294967296)) (bits_hi_u32 _ _ _)).set 13 (bits_lo_u32 .xor ((v.set 12 (bits BinOp.xor IntKind.u32 (v[12]?.getD 0) (t % 4294967296)))[13]?.getD 0) (t / 4294967296)) (bits_hi_u32 _ _ _)
    exact h2.set 14 (by have := (h2 14).2; omega) (by have := (h2 14).1; omega)
/-- one of the ten rounds -/
def mixR (m : List Int) (r j a b c d : Nat) (v : List Int) : List Int := mixL v a b c d (m[(ord r (2 * j)).toNat]?.getD 0) (m[(ord r (2 * j + 1)).toNat]?.getD 0)
def roundL (m v : List Int) (r : Nat) : List Int :=
  mixR m r 7 3 4 9 14 (mixR m r 6 2 7 8 13 (mixR m r 5 1 6 11 12 (mixR m r 4 0 5 10 15 (mixR m r 3 3 7 11 15 (mixR m r 2 2 6 10 14 (mixR m r 1 1 5 9 13 (mixR m r 0 0 4 8 12 v)))))))
def rounds (m v : List Int) : Nat → List Int
  | 0 => v
  | r + 1 => roundL m (rounds m v r) r
theorem mixL_len (v : List Int) (a b c d : Nat) (x y : Int) : (mixL v a b c d x y).length = v.length := by simp [mixL]
theorem mixL_32 {v : List Int} (h : W32 v) (a b c d : Nat) (x y : Int) : W32 (mixL v a b c d x y) := by
  unfold mixL mixF
  exact (((h.set a (by dsimp only; omega) (by dsimp only; omega)).set b (rotr_b _ _).1 (rotr_b _ _).2).set c (by dsimp only; omega) (by dsimp only; omega)).set d (rotr_b _ _).1 (rotr_b _ _).2
theorem mixR_len (m : List Int) (r j a b c d : Nat) (v : List Int) : (mixR m r j a b c d v).length = v.length := mixL_len _ _ _ _ _ _ _
theorem mixR_32 {v : List Int} (h : W32 v) (m : List Int) (r j a b c d : Nat) : W32 (mixR m r j a b c d v) := mixL_32 h _ _ _ _ _ _
theorem rounds_len (m v : List Int) (r : Nat) : (rounds m v r).length = v.length := by
  induction r with
  | zero => rfl
  | succ r ih => simp [rounds, roundL, mixR_len, ih]
theorem rounds_32 {v : List Int} (h : W32 v) (m : List Int) (r : Nat) : W32 (rounds m v r) := by
  induction r with
  | zero => exact h
  | succ r ih =>
    unfold rounds roundL
    repeat refine mixR_32 ?_ _ _ _ _ _ _ _
    exact ih
def hOut (h v : List Int) : Nat → List Int
  | 0 => h
  | k + 1 => (hOut h v k).set k (bits BinOp.xor IntKind.u32 ((hOut h v k)[k]?.getD 0) (bits BinOp.xor IntKind.u32 (v[k]?.getD 0) (v[k + 8]?.getD 0)))
theorem hOut_len (h v : List Int) (k : Nat) : (hOut h v k).length = h.length := by
  induction k with
  | zero => rfl
  | succ k ih => simp [hOut, ih]
theorem hOut_32 {h : List Int} (hh : W32 h) (v : List Int) (k : Nat) : W32 (hOut h v k) := by
  induction k with
  | zero => exact hh
  | succ k ih => exact ih.set _ (bits_lo_u32 _ _ _) (bits_hi_u32 _ _ _)
/-- the state after one block -/
def compL (h m : List Int) (t : Int) (last : Bool) : List Int := hOut h (rounds m (vMark (vInit h 8) t last) 10) 8
/-- what compress holds in memory: the state h, the block m, its result, the work vector v -/
structure CInv (w0 : World) (h m v : List Int) (w : World) : Prop where
  hh : w.heap[w0.heap.size]? = some (.cells (u32v h) 141 (0, 0))
  hm : w.heap[w0.heap.size + 1]? = some (.cells (u32v m) 143 (0, 0))
  ho : w.heap[w0.heap.size + 1 + 1]? = some (.cells (u32v (List.replicate 8 0)) 141 (0, 0))
  hv : w.heap[w0.heap.size + 1 + 1 + 1]? = some (.cells (u32v v) 143 (0, 0))
  below : Below w0.heap.size w0 w
theorem CInv.size {w0 w : World} {h m v : List Int} (c : CInv w0 h m v w) : w0.heap.size + 4 ≤ w.heap.size := by
  have := blk_lt c.hv
  omega
theorem CInv.later {w0 w w' : World} {h m v : List Int} {B : Nat} (c : CInv w0 h m v w) (hb : Below B w w') (hB : w0.heap.size + 4 ≤ B) : CInv w0 h m v w' :=
  ⟨blk_below c.hh hb (by omega), blk_below c.hm hb (by omega), blk_below c.ho hb (by omega), blk_below c.hv hb (by omega), c.below.trans (hb.mono (by omega))⟩
theorem CInv.setV {w0 w : World} {h m v : List Int} (c : CInv w0 h m v w) (v' : List Int) : CInv w0 h m v' (w.setRow (w0.heap.size + 1 + 1 + 1) (u32v v')) :=
  ⟨(setRow_other _ _ _ _ (by omega)).trans c.hh, (setRow_other _ _ _ _ (by omega)).trans c.hm, (setRow_other _ _ _ _ (by omega)).trans c.ho, setRow_heap _ _ _ _ _ _ c.hv, below_setRow c.below (by omega) _⟩
theorem CInv.setVcell {w0 w : World} {h m v : List Int} (c : CInv w0 h m v w) (i : Nat) (z : Int) : CInv w0 h m (v.set i z) (w.setCell ⟨w0.heap.size + 1 + 1 + 1, i, none⟩ (.int .u32 z)) := by
  rw [setCell_eq_setRow _ _ _ _ _ _ _ c.hv, u32v_set]
  exact c.setV _
theorem CInv.setHcell {w0 w : World} {h m v : List Int} (c : CInv w0 h m v w) (i : Nat) (z : Int) : CInv w0 (h.set i z) m v (w.setCell ⟨w0.heap.size, i, none⟩ (.int .u32 z)) := by
  rw [setCell_eq_setRow _ _ _ _ _ _ _ c.hh, u32v_set]
  exact ⟨setRow_heap _ _ _ _ _ _ c.hh, (setRow_other _ _ _ _ (by omega)).trans c.hm, (setRow_other _ _ _ _ (by omega)).trans c.ho, (setRow_other _ _ _ _ (by omega)).trans c.hv, below_setRow c.below (by omega) _⟩
theorem CInv.vcell {w0 w : World} {h m v : List Int} (c : CInv w0 h m v w) (i : Nat) (hi : i < v.length) : w.cell? ⟨w0.heap.size + 1 + 1 + 1, i, none⟩ = some (.int .u32 (v[i]?.getD 0)) := by
  rw [cell_of_row _ _ _ _ _ _ c.hv]; exact u32v_get _ _ hi
theorem CInv.mcell {w0 w : World} {h m v : List Int} (c : CInv w0 h m v w) (i : Nat) (hi : i < m.length) : w.cell? ⟨w0.heap.size + 1, i, none⟩ = some (.int .u32 (m[i]?.getD 0)) := by
  rw [cell_of_row _ _ _ _ _ _ c.hm]; exact u32v_get _ _ hi
theorem CInv.hcell {w0 w : World} {h m v : List Int} (c : CInv w0 h m v w) (i : Nat) (hi : i < h.length) : w.cell? ⟨w0.heap.size, i, none⟩ = some (.int .u32 (h[i]?.getD 0)) := by
  rw [cell_of_row _ _ _ _ _ _ c.hh]; exact u32v_get _ _ hi
theorem CInv.vfree {w0 w : World} {h m v : List Int} (c : CInv w0 h m v w) (i : Nat) : w.frozen? ⟨w0.heap.size + 1 + 1 + 1, i, none⟩ = false := frozen_of_row _ _ _ _ _ c.hv
theorem CInv.hfree {w0 w : World} {h m v : List Int} (c : CInv w0 h m v w) (i : Nat) : w.frozen? ⟨w0.heap.size, i, none⟩ = false := frozen_of_row _ _ _ _ _ c.hh
theorem CInv.drew {w0 w : World} {h m v : List Int} (c : CInv w0 h m v w) : CInv w0 h m v w.drew := c.later (B := w.heap.size) (Below.refl _ _).drew c.size

/-- what a round holds: compress's own, and the order of this round in block zb -/
structure RInv (w0 : World) (h m v : List Int) (zb r : Nat) (w : World) : Prop where
  c : CInv w0 h m v w
  hz : w.heap[zb]? = some (.cells (ordRow r).toArray 163 (0, 0))
  le : w0.heap.size + 4 ≤ zb
theorem RInv.later {w0 w w' : World} {h m v : List Int} {zb r B : Nat} (c : RInv w0 h m v zb r w) (hb : Below B w w') (hB : w.heap.size ≤ B) : RInv w0 h m v zb r w' :=
  ⟨c.c.later hb (Nat.le_trans c.c.size hB), blk_below c.hz hb (Nat.lt_of_lt_of_le (blk_lt c.hz) hB), c.le⟩
theorem RInv.drew {w0 w : World} {h m v : List Int} {zb r : Nat} (c : RInv w0 h m v zb r w) : RInv w0 h m v zb r w.drew := c.later (Below.refl w.heap.size w).drew (Nat.le_refl _)
theorem RInv.setV {w0 w : World} {h m v : List Int} {zb r : Nat} (c : RInv w0 h m v zb r w) (v' : List Int) : RInv w0 h m v' zb r (w.setRow (w0.heap.size + 1 + 1 + 1) (u32v v')) :=
  ⟨c.c.setV v', (setRow_other _ _ _ _ (by have := c.le; omega)).trans c.hz, c.le⟩
theorem ordL_row (r : Nat) (hr : r < 10) : ∃ l, ordL[r]? = some l ∧ l.length = 16 := by
  rcases r with _ | _ | _ | _ | _ | _ | _ | _ | _ | _ | r
  case succ.succ.succ.succ.succ.succ.succ.succ.succ.succ => omega
  all_goals exact ⟨_, rfl, rfl⟩
theorem ordRow_len (r : Nat) (hr : r < 10) : (ordRow r).length = 16 := by
  obtain ⟨l, h, hl⟩ := ordL_row r hr
  simp [ordRow, h, hl]
theorem ord_b (r k : Nat) : 0 ≤ ord r k ∧ ord r k < 16 := by
  have H : ∀ l ∈ ordL, ∀ x ∈ l, 0 ≤ x ∧ x < 16 := by decide
  unfold ord
  cases h : ordL[r]? with
  | none => simp
  | some l =>
    simp only [Option.getD_some]
    cases h2 : l[k]? with
    | none => simp
    | some x => exact H l (List.mem_of_getElem? h) x (List.mem_of_getElem? h2)
theorem RInv.zcell {w0 w : World} {h m v : List Int} {zb r : Nat} (c : RInv w0 h m v zb r w) (hr : r < 10) (k : Nat) (hk : k < 16) : w.cell? ⟨zb, k, none⟩ = some (.int .u8 (ord r k)) := by
  obtain ⟨l, h, hl⟩ := ordL_row r hr
  rw [cell_of_row _ _ _ _ _ _ c.hz]
  have : k < l.length := by omega
  simp [ordRow, ord, h, this]
theorem undB16 : Tryz.prog.underlying 163 = some (.array 16 5) := by kernel_rfl
theorem undA8 : Tryz.prog.underlying 141 = some (.array 8 140) := by kernel_rfl
theorem infoA8 {vs : List Int} (h : vs.length = 8) : (Tryz.prog.info? 141).map (·.size) = some (u32v vs).size := by
  rw [u32v_size, h]
  kernel_rfl
theorem sz8 {v : List Int} (h : v.length = 8) : (u32v (List.replicate 8 0)).size = (u32v v).size := by rw [u32v_size, u32v_size, h]; rfl
theorem sz16 {v v' : List Int} (h : v.length = 16) (h' : v'.length = 16) : (u32v v).size = (u32v v').size := by rw [u32v_size, u32v_size, h, h']
theorem infoB16 {r : Nat} (hr : r < 10) : (Tryz.prog.info? 163).map (·.size) = some (ordRow r).length := by
  rw [ordRow_len r hr]
  kernel_rfl
theorem infoB16' {r : Nat} (hr : r < 10) : (Tryz.prog.info? 163).map (·.size) = some (ordRow r).toArray.size := by
  rw [List.size_toArray]
  exact infoB16 hr
theorem ordRow_len' {r : Nat} (hr : r < 10) : 16 = (ordRow r).toArray.size := by rw [List.size_toArray, ordRow_len r hr]
theorem ordRow_one (r : Nat) : (ordRow r).toArray.all (·.oneCell') = true := by
  simp [ordRow, Value.oneCell']
theorem not32 (x : Int) (h0 : 0 ≤ x) (h1 : x ≤ 4294967295) : Op.unary .xor (.int .u32 x) = pure (.int .u32 (4294967295 - x)) := by
  obtain ⟨n, rfl⟩ := Int.eq_ofNat_of_zero_le h0
  show (pure (.int .u32 (bits .xor .u32 4294967295 (n : Int))) : Sem Value) = _
  have e : bits .xor .u32 ((4294967295 : Nat) : Int) (n : Int) = ((4294967295 ^^^ n : Nat) : Int) := u32_xor_nat _ _ (by decide) (by omega)
  have e2 : 4294967295 ^^^ n = 4294967295 - n := by
    have h : (BitVec.allOnes 32 ^^^ BitVec.ofNat 32 n).toNat = 4294967295 ^^^ n := by
      rw [BitVec.toNat_xor, BitVec.toNat_allOnes, BitVec.toNat_ofNat, Nat.mod_eq_of_lt (by omega)]
    rw [← h, BitVec.allOnes_xor, BitVec.toNat_not, BitVec.toNat_ofNat, Nat.mod_eq_of_lt (by omega)]
  rw [e2] at e
  have e3 : bits .xor .u32 4294967295 (n : Int) = ((4294967295 - n : Nat) : Int) := e
  rw [e3]
  congr 2
  omega
set_option maxRecDepth 100000 in
set_option maxHeartbeats 4000000 in
theorem comp_any (h m : List Int) (t : Int) (last : Bool) (w : World) (hg : Glob w) (hl : h.length = 8) (hm : m.length = 16) (hh : W32 h) (hm32 : W32 m) (ht0 : 0 ≤ t) (ht1 : t ≤ 1000000000000) :
    Calls Tryz.prog 87 #[.agg (u32v h), .agg (u32v m), .int .u64 t, .bool last] w fun e w' => e = .returned (.agg (u32v (compL h m t last))) ∧ Below w.heap.size w w' := by
  go_enter Tryz.func87, Tryz.ntmps87
  have Hg := Lib.hid hg
  have Hl := Lib.hid hl
  have Hm := Lib.hid hm
  have Hh := Lib.hid hh
  have Hm32 := Lib.hid hm32
  clear hg hl hm hh hm32
  go_wp2
  go_loopw [14] (fun i wr => ∃ k : Nat, k ≤ 8 ∧ i = .int .i64 k ∧ CInv w h m (vInit h k) wr) (fun i _ => 8 - (Go.RowKit.intOf i).toNat)
  case atStart =>
    refine ⟨0, by omega, rfl, ?_⟩
    have H4 := heap_alloc4 w (Obj.cells (u32v h) 141) (Obj.cells (u32v m) 143) (.cells (u32v (List.replicate 8 0)) 141) (.cells (u32v (List.replicate 16 0)) 143)
    exact ⟨H4.1, H4.2.1, H4.2.2.1, H4.2.2.2, (((((Below.refl _ _).alloc (Nat.le_refl _) _).alloc (by simp) _).alloc (by simp; omega) _).alloc (by simp; omega) _)⟩
  case round =>
    obtain ⟨k, hk, rfl, hC⟩ := hrel
    have HC := Lib.hid hC
    clear hC
    by_cases hlt : k < 8
    · have c1 := HC.out.hcell k (by rw [Hl.out]; exact hlt)
      have c2 := HC.out.vcell k (by rw [vInit_len]; omega)
      have c3 := HC.out.vcell (k + 8) (by rw [vInit_len]; omega)
      have f1 := HC.out.vfree k
      have f2 := HC.out.vfree (k + 8)
      have g0 : wr.cell? ⟨0, k, none⟩ = some (.int .u32 (startL[k]?.getD 0)) := by
        have := (Hg.out.below HC.out.below Hg.out.size).start k (.int .u32 (startL[k]?.getD 0)) (by simp [startL]; rcases k with _ | _ | _ | _ | _ | _ | _ | _ | k <;> first | rfl | omega)
        simpa using this
      have g1 : (0 : Int) ≤ (k : Int) + 8 := by omega
      have g2 : (k : Int) + 8 < 16 := by omega
      have g3 : ((k : Int) + 8).toNat = k + 8 := by omega
      have h1 : IntKind.i64.wrap ((k : Int) + 8) = (k : Int) + 8 := IntWalk.i64_in _ (by omega)
      go_wp2
      go_region
      go_wp2
      go_roundw
      case rel =>
        refine ⟨k + 1, by omega, by go_num, ?_⟩
        exact ((HC.out.setVcell k _).setVcell (k + 8) _).drew
      case measure => simp [Go.RowKit.intOf]; omega
    · obtain rfl : k = 8 := by omega
      clear hlt hk
      rw [show ((8 : Nat) : Int) = 8 from rfl]
      have hvl := vInit_len h 8
      have HV0 : Hid (W32 (vInit h 8)) := vInit_32 Hh.out 8
      generalize hvI : vInit h 8 = vI at *
      have HvI := Lib.hid hvI
      clear hvI
      have c12 := HC.out.vcell 12 (by omega)
      have c13 := HC.out.vcell 13 (by omega)
      have c14 := HC.out.vcell 14 (by omega)
      have f12 := HC.out.vfree 12
      have f13 := HC.out.vfree 13
      have f14 := HC.out.vfree 14
      generalize hx12 : vI[12]?.getD 0 = x12 at *
      generalize hx13 : vI[13]?.getD 0 = x13 at *
      generalize hx14 : vI[14]?.getD 0 = x14 at *
      have X12 := Lib.hid hx12
      have X13 := Lib.hid hx13
      have X14 := Lib.hid hx14
      have Hvl := Lib.hid hvl
      clear hx12 hx13 hx14 hvl
      go_upto_if 42 with (fail)
      generalize hW2 : (wr.setCell _ _).setCell _ _ = W2
      have hC2 : CInv w h m ((vI.set 12 (bits BinOp.xor IntKind.u32 x12 (t % 4294967296))).set 13 (bits BinOp.xor IntKind.u32 x13 (t / 4294967296))) W2 := by
        rw [← hW2]
        exact (HC.out.setVcell 12 _).setVcell 13 _
      clear hW2 c12 c13 c14 f12 f13 f14
      have c14 : W2.cell? ⟨w.heap.size + 1 + 1 + 1, 14, none⟩ = some (.int .u32 x14) := by
        have := hC2.vcell 14 (by simp [Hvl.out])
        rw [this]
        simp only [List.getElem?_set_ne (show (13 : Nat) ≠ 14 by decide), List.getElem?_set_ne (show (12 : Nat) ≠ 14 by decide), X14.out]
      have f14 := hC2.vfree 14
      have b14 : 0 ≤ x14 ∧ x14 ≤ 4294967295 := by rw [← X14.out]; exact HV0.out 14
      have HC2 := Lib.hid hC2
      clear hC2
      go_cut [] (fun w' => CInv w h m (vMark vI t last) w')
      case first =>
        cases last
        · go_wp2
          go_meet
          case rel =>
            have := HC2.out
            simp only [vMark, X12.out, List.getElem?_set_ne (show (12 : Nat) ≠ 13 by decide), X13.out]
            exact this
        · have hn := not32 x14 b14.1 b14.2
          go_wp2
          go_meet
          case rel =>
            have := HC2.out.setVcell 14 (4294967295 - x14)
            simp only [vMark, X12.out, List.getElem?_set_ne (show (12 : Nat) ≠ 13 by decide), X13.out, List.getElem?_set_ne (show (13 : Nat) ≠ 14 by decide), List.getElem?_set_ne (show (12 : Nat) ≠ 14 by decide), X14.out]
            exact this
      case rest =>
        have HCC := Lib.hid hcut
        clear hcut HC HC2 c14 f14 b14 X12 X13 X14
        have HV : Hid ((vMark vI t last).length = 16) := (vMark_len _ _ _).trans Hvl.out
        have HV32 : Hid (W32 (vMark vI t last)) := vMark_32 HV0.out _ _
        have HVE : Hid (compL h m t last = hOut h (rounds m (vMark vI t last) 10) 8) := by
          show compL h m t last = hOut h (rounds m (vMark vI t last) 10) 8
          unfold compL
          rw [HvI.out]
        generalize vMark vI t last = v0 at *
        go_wp2_with fail
        go_loopw [47] (fun i wr => ∃ r : Nat, r ≤ 10 ∧ i = .int .i64 r ∧ CInv w h m (rounds m v0 r) wr) (fun i _ => 10 - (Go.RowKit.intOf i).toNat)
        case atStart => exact ⟨0, by omega, rfl, HCC.out⟩
        case round =>
          obtain ⟨r, hr, rfl, hC⟩ := hrel
          by_cases hlt : r < 10
          · have HOR := Lib.hid ((Hg.out.below hC.below Hg.out.size).orders r hlt)
            have HC := Lib.hid hC
            clear hC
            go_wp2_with (first | (refine wpList_load_mid rfl 163 _ rfl 1 (r * 16) rfl (ordRow r) _ HOR.out undB16 rfl (infoB16 hlt) ?_) | (refine wpList_store_row rfl 163 _ _ rfl wr.heap.size _ rfl rfl 163 _ (heap_alloc_new _ _) (infoB16' hlt) (ordRow_len' hlt) (ordRow_one r) ?_))
            have hZ0 : ((wr.alloc (Obj.cells #[Value.int IntKind.u8 0, Value.int IntKind.u8 0, Value.int IntKind.u8 0, Value.int IntKind.u8 0, Value.int IntKind.u8 0, Value.int IntKind.u8 0, Value.int IntKind.u8 0, Value.int IntKind.u8 0, Value.int IntKind.u8 0, Value.int IntKind.u8 0, Value.int IntKind.u8 0, Value.int IntKind.u8 0, Value.int IntKind.u8 0, Value.int IntKind.u8 0, Value.int IntKind.u8 0, Value.int IntKind.u8 0] 163)).setRow wr.heap.size (ordRow r).toArray) = wr.alloc (.cells (ordRow r).toArray 163) := World.setRow_alloc_new _ _ _ _
            rw [hZ0]
            clear hZ0
            generalize hW : wr.alloc (.cells (ordRow r).toArray 163) = W0
            have hR : RInv w h m (rounds m v0 r) wr.heap.size r W0 := by
              rw [← hW]
              exact ⟨HC.out.later ((Below.refl wr.heap.size wr).alloc (Nat.le_refl _) _) HC.out.size, heap_alloc_new _ _, HC.out.size⟩
            clear hW HOR
            have HR0 := Lib.hid hR
            have HL0 : Hid ((rounds m v0 r).length = 16) := (rounds_len _ _ _).trans HV.out
            have H320 : Hid (W32 (rounds m v0 r)) := rounds_32 HV32.out _ _
            have HRd : Hid (roundL m (rounds m v0 r) r = rounds m v0 (r + 1)) := rfl
            clear hR HC
            generalize rounds m v0 r = V0 at *
            generalize wr.heap.size = zb at *
            simp only [Act.put]
            -- mix 0
            refine wp_region_still_tail 9 (by kernel_rfl) (by kernel_rfl) ?_
            simp only [List.take_succ_cons, List.take_zero, List.drop_succ_cons, List.drop_zero]
            change wpStill _ _ W0.drew (fun a' => wpList _ _ _ _ a' W0.drew) _ _
            have hR := HR0.out.drew
            generalize W0.drew = W at *
            have hz1 := hR.zcell hlt 0 (by omega)
            have hz2 := hR.zcell hlt 1 (by omega)
            obtain ⟨b1, b2⟩ := ord_b r 0
            obtain ⟨b3, b4⟩ := ord_b r 1
            have hM : Hid (mixR m r 0 0 4 8 12 V0 = mixL V0 0 4 8 12 (m[(ord r 0).toNat]?.getD 0) (m[(ord r 1).toNat]?.getD 0)) := rfl
            generalize ord r 0 = o1m0 at *
            generalize ord r 1 = o2m0 at *
            have hm1 := hR.c.mcell o1m0.toNat (by rw [Hm.out]; omega)
            have hm2 := hR.c.mcell o2m0.toNat (by rw [Hm.out]; omega)
            have hx1 := Hm32.out o1m0.toNat
            have hx2 := Hm32.out o2m0.toNat
            generalize m[o1m0.toNat]?.getD 0 = x1m0 at *
            generalize m[o2m0.toNat]?.getD 0 = x2m0 at *
            have HR := Lib.hid hR
            clear hR
            refine wpStill_load_row rfl 143 _ rfl _ rfl 143 _ _ _ HR.out.c.hv undA16 rfl (infoA16 HL0.out) ?_
            repeat still_step
            refine wpStill_nil ?_
            go_wp2_with fail
            refine (mix_any V0 0 4 8 12 x1m0 x2m0 _ HL0.out H320.out (by omega) (by omega) (by omega) (by omega) (by omega) (by omega) (by omega) (by omega) (by decide) (by decide) (by decide) (by decide) (by decide) (by decide) hx1.1 hx1.2 hx2.1 hx2.2).mono ?_
            rintro e w' ⟨rfl, hb⟩
            clear hz1 hz2 hm1 hm2 b1 b2 b3 b4 hx1 hx2
            have hR' := HR.out.later hb (Nat.le_refl _)
            have hR2 : RInv w h m (mixR m r 0 0 4 8 12 V0) zb r (w'.setRow (w.heap.size + 1 + 1 + 1) (u32v (mixR m r 0 0 4 8 12 V0))) := hR'.setV _
            have HV' : Hid (w'.heap[w.heap.size + 1 + 1 + 1]? = _) := hR'.c.hv
            have hM' : mixL V0 (Int.toNat 0) (Int.toNat 4) (Int.toNat 8) (Int.toNat 12) x1m0 x2m0 = mixR m r 0 0 4 8 12 V0 := hM.out.symm
            rw [hM']
            clear hM hM' hb hR' HR HR0
            have HR1 := Lib.hid hR2
            clear hR2
            have HL1 : Hid ((mixR m r 0 0 4 8 12 V0).length = 16) := (mixR_len _ _ _ _ _ _ _ _).trans HL0.out
            have H321 : Hid (W32 (mixR m r 0 0 4 8 12 V0)) := mixR_32 H320.out _ _ _ _ _ _ _
            generalize hV1 : mixR m r 0 0 4 8 12 V0 = V1 at *
            have HE1 := Lib.hid hV1
            clear hV1
            go_wp2_with (refine wpList_store_row rfl 143 _ _ rfl (w.heap.size + 1 + 1 + 1) (u32v V1) rfl rfl 143 _ HV'.out (infoA16 HL1.out) (sz16 HL0.out HL1.out) (u32v_one _) ?_)
            clear HV'
            generalize w'.setRow (w.heap.size + 1 + 1 + 1) (u32v V1) = W1 at *
            clear HL0 H320 w' W
            -- mix 1
            refine wp_region_still_tail 9 (by kernel_rfl) (by kernel_rfl) ?_
            simp only [List.take_succ_cons, List.take_zero, List.drop_succ_cons, List.drop_zero]
            change wpStill _ _ W1.drew (fun a' => wpList _ _ _ _ a' W1.drew) _ _
            have hR := HR1.out.drew
            generalize W1.drew = W at *
            have hz1 := hR.zcell hlt 2 (by omega)
            have hz2 := hR.zcell hlt 3 (by omega)
            obtain ⟨b1, b2⟩ := ord_b r 2
            obtain ⟨b3, b4⟩ := ord_b r 3
            have hM : Hid (mixR m r 1 1 5 9 13 V1 = mixL V1 1 5 9 13 (m[(ord r 2).toNat]?.getD 0) (m[(ord r 3).toNat]?.getD 0)) := rfl
            generalize ord r 2 = o1m1 at *
            generalize ord r 3 = o2m1 at *
            have hm1 := hR.c.mcell o1m1.toNat (by rw [Hm.out]; omega)
            have hm2 := hR.c.mcell o2m1.toNat (by rw [Hm.out]; omega)
            have hx1 := Hm32.out o1m1.toNat
            have hx2 := Hm32.out o2m1.toNat
            generalize m[o1m1.toNat]?.getD 0 = x1m1 at *
            generalize m[o2m1.toNat]?.getD 0 = x2m1 at *
            have HR := Lib.hid hR
            clear hR
            refine wpStill_load_row rfl 143 _ rfl _ rfl 143 _ _ _ HR.out.c.hv undA16 rfl (infoA16 HL1.out) ?_
            repeat still_step
            refine wpStill_nil ?_
            go_wp2_with fail
            refine (mix_any V1 1 5 9 13 x1m1 x2m1 _ HL1.out H321.out (by omega) (by omega) (by omega) (by omega) (by omega) (by omega) (by omega) (by omega) (by decide) (by decide) (by decide) (by decide) (by decide) (by decide) hx1.1 hx1.2 hx2.1 hx2.2).mono ?_
            rintro e w' ⟨rfl, hb⟩
            clear hz1 hz2 hm1 hm2 b1 b2 b3 b4 hx1 hx2
            have hR' := HR.out.later hb (Nat.le_refl _)
            have hR2 : RInv w h m (mixR m r 1 1 5 9 13 V1) zb r (w'.setRow (w.heap.size + 1 + 1 + 1) (u32v (mixR m r 1 1 5 9 13 V1))) := hR'.setV _
            have HV' : Hid (w'.heap[w.heap.size + 1 + 1 + 1]? = _) := hR'.c.hv
            have hM' : mixL V1 (Int.toNat 1) (Int.toNat 5) (Int.toNat 9) (Int.toNat 13) x1m1 x2m1 = mixR m r 1 1 5 9 13 V1 := hM.out.symm
            rw [hM']
            clear hM hM' hb hR' HR HR1
            have HR2 := Lib.hid hR2
            clear hR2
            have HL2 : Hid ((mixR m r 1 1 5 9 13 V1).length = 16) := (mixR_len _ _ _ _ _ _ _ _).trans HL1.out
            have H322 : Hid (W32 (mixR m r 1 1 5 9 13 V1)) := mixR_32 H321.out _ _ _ _ _ _ _
            generalize hV2 : mixR m r 1 1 5 9 13 V1 = V2 at *
            have HE2 := Lib.hid hV2
            clear hV2
            go_wp2_with (refine wpList_store_row rfl 143 _ _ rfl (w.heap.size + 1 + 1 + 1) (u32v V2) rfl rfl 143 _ HV'.out (infoA16 HL2.out) (sz16 HL1.out HL2.out) (u32v_one _) ?_)
            clear HV'
            generalize w'.setRow (w.heap.size + 1 + 1 + 1) (u32v V2) = W2 at *
            clear HL1 H321 w' W
            -- mix 2
            refine wp_region_still_tail 9 (by kernel_rfl) (by kernel_rfl) ?_
            simp only [List.take_succ_cons, List.take_zero, List.drop_succ_cons, List.drop_zero]
            change wpStill _ _ W2.drew (fun a' => wpList _ _ _ _ a' W2.drew) _ _
            have hR := HR2.out.drew
            generalize W2.drew = W at *
            have hz1 := hR.zcell hlt 4 (by omega)
            have hz2 := hR.zcell hlt 5 (by omega)
            obtain ⟨b1, b2⟩ := ord_b r 4
            obtain ⟨b3, b4⟩ := ord_b r 5
            have hM : Hid (mixR m r 2 2 6 10 14 V2 = mixL V2 2 6 10 14 (m[(ord r 4).toNat]?.getD 0) (m[(ord r 5).toNat]?.getD 0)) := rfl
            generalize ord r 4 = o1m2 at *
            generalize ord r 5 = o2m2 at *
            have hm1 := hR.c.mcell o1m2.toNat (by rw [Hm.out]; omega)
            have hm2 := hR.c.mcell o2m2.toNat (by rw [Hm.out]; omega)
            have hx1 := Hm32.out o1m2.toNat
            have hx2 := Hm32.out o2m2.toNat
            generalize m[o1m2.toNat]?.getD 0 = x1m2 at *
            generalize m[o2m2.toNat]?.getD 0 = x2m2 at *
            have HR := Lib.hid hR
            clear hR
            refine wpStill_load_row rfl 143 _ rfl _ rfl 143 _ _ _ HR.out.c.hv undA16 rfl (infoA16 HL2.out) ?_
            repeat still_step
            refine wpStill_nil ?_
            go_wp2_with fail
            refine (mix_any V2 2 6 10 14 x1m2 x2m2 _ HL2.out H322.out (by omega) (by omega) (by omega) (by omega) (by omega) (by omega) (by omega) (by omega) (by decide) (by decide) (by decide) (by decide) (by decide) (by decide) hx1.1 hx1.2 hx2.1 hx2.2).mono ?_
            rintro e w' ⟨rfl, hb⟩
            clear hz1 hz2 hm1 hm2 b1 b2 b3 b4 hx1 hx2
            have hR' := HR.out.later hb (Nat.le_refl _)
            have hR2 : RInv w h m (mixR m r 2 2 6 10 14 V2) zb r (w'.setRow (w.heap.size + 1 + 1 + 1) (u32v (mixR m r 2 2 6 10 14 V2))) := hR'.setV _
            have HV' : Hid (w'.heap[w.heap.size + 1 + 1 + 1]? = _) := hR'.c.hv
            have hM' : mixL V2 (Int.toNat 2) (Int.toNat 6) (Int.toNat 10) (Int.toNat 14) x1m2 x2m2 = mixR m r 2 2 6 10 14 V2 := hM.out.symm
            rw [hM']
            clear hM hM' hb hR' HR HR2
            have HR3 := Lib.hid hR2
            clear hR2
            have HL3 : Hid ((mixR m r 2 2 6 10 14 V2).length = 16) := (mixR_len _ _ _ _ _ _ _ _).trans HL2.out
            have H323 : Hid (W32 (mixR m r 2 2 6 10 14 V2)) := mixR_32 H322.out _ _ _ _ _ _ _
            generalize hV3 : mixR m r 2 2 6 10 14 V2 = V3 at *
            have HE3 := Lib.hid hV3
            clear hV3
            go_wp2_with (refine wpList_store_row rfl 143 _ _ rfl (w.heap.size + 1 + 1 + 1) (u32v V3) rfl rfl 143 _ HV'.out (infoA16 HL3.out) (sz16 HL2.out HL3.out) (u32v_one _) ?_)
            clear HV'
            generalize w'.setRow (w.heap.size + 1 + 1 + 1) (u32v V3) = W3 at *
            clear HL2 H322 w' W
            -- mix 3
            refine wp_region_still_tail 9 (by kernel_rfl) (by kernel_rfl) ?_
            simp only [List.take_succ_cons, List.take_zero, List.drop_succ_cons, List.drop_zero]
            change wpStill _ _ W3.drew (fun a' => wpList _ _ _ _ a' W3.drew) _ _
            have hR := HR3.out.drew
            generalize W3.drew = W at *
            have hz1 := hR.zcell hlt 6 (by omega)
            have hz2 := hR.zcell hlt 7 (by omega)
            obtain ⟨b1, b2⟩ := ord_b r 6
            obtain ⟨b3, b4⟩ := ord_b r 7
            have hM : Hid (mixR m r 3 3 7 11 15 V3 = mixL V3 3 7 11 15 (m[(ord r 6).toNat]?.getD 0) (m[(ord r 7).toNat]?.getD 0)) := rfl
            generalize ord r 6 = o1m3 at *
            generalize ord r 7 = o2m3 at *
            have hm1 := hR.c.mcell o1m3.toNat (by rw [Hm.out]; omega)
            have hm2 := hR.c.mcell o2m3.toNat (by rw [Hm.out]; omega)
            have hx1 := Hm32.out o1m3.toNat
            have hx2 := Hm32.out o2m3.toNat
            generalize m[o1m3.toNat]?.getD 0 = x1m3 at *
            generalize m[o2m3.toNat]?.getD 0 = x2m3 at *
            have HR := Lib.hid hR
            clear hR
            refine wpStill_load_row rfl 143 _ rfl _ rfl 143 _ _ _ HR.out.c.hv undA16 rfl (infoA16 HL3.out) ?_
            repeat still_step
            refine wpStill_nil ?_
            go_wp2_with fail
            refine (mix_any V3 3 7 11 15 x1m3 x2m3 _ HL3.out H323.out (by omega) (by omega) (by omega) (by omega) (by omega) (by omega) (by omega) (by omega) (by decide) (by decide) (by decide) (by decide) (by decide) (by decide) hx1.1 hx1.2 hx2.1 hx2.2).mono ?_
            rintro e w' ⟨rfl, hb⟩
            clear hz1 hz2 hm1 hm2 b1 b2 b3 b4 hx1 hx2
            have hR' := HR.out.later hb (Nat.le_refl _)
            have hR2 : RInv w h m (mixR m r 3 3 7 11 15 V3) zb r (w'.setRow (w.heap.size + 1 + 1 + 1) (u32v (mixR m r 3 3 7 11 15 V3))) := hR'.setV _
            have HV' : Hid (w'.heap[w.heap.size + 1 + 1 + 1]? = _) := hR'.c.hv
            have hM' : mixL V3 (Int.toNat 3) (Int.toNat 7) (Int.toNat 11) (Int.toNat 15) x1m3 x2m3 = mixR m r 3 3 7 11 15 V3 := hM.out.symm
            rw [hM']
            clear hM hM' hb hR' HR HR3
            have HR4 := Lib.hid hR2
            clear hR2
            have HL4 : Hid ((mixR m r 3 3 7 11 15 V3).length = 16) := (mixR_len _ _ _ _ _ _ _ _).trans HL3.out
            have H324 : Hid (W32 (mixR m r 3 3 7 11 15 V3)) := mixR_32 H323.out _ _ _ _ _ _ _
            generalize hV4 : mixR m r 3 3 7 11 15 V3 = V4 at *
            have HE4 := Lib.hid hV4
            clear hV4
            go_wp2_with (refine wpList_store_row rfl 143 _ _ rfl (w.heap.size + 1 + 1 + 1) (u32v V4) rfl rfl 143 _ HV'.out (infoA16 HL4.out) (sz16 HL3.out HL4.out) (u32v_one _) ?_)
            clear HV'
            generalize w'.setRow (w.heap.size + 1 + 1 + 1) (u32v V4) = W4 at *
            clear HL3 H323 w' W
            -- mix 4
            refine wp_region_still_tail 9 (by kernel_rfl) (by kernel_rfl) ?_
            simp only [List.take_succ_cons, List.take_zero, List.drop_succ_cons, List.drop_zero]
            change wpStill _ _ W4.drew (fun a' => wpList _ _ _ _ a' W4.drew) _ _
            have hR := HR4.out.drew
            generalize W4.drew = W at *
            have hz1 := hR.zcell hlt 8 (by omega)
            have hz2 := hR.zcell hlt 9 (by omega)
            obtain ⟨b1, b2⟩ := ord_b r 8
            obtain ⟨b3, b4⟩ := ord_b r 9
            have hM : Hid (mixR m r 4 0 5 10 15 V4 = mixL V4 0 5 10 15 (m[(ord r 8).toNat]?.getD 0) (m[(ord r 9).toNat]?.getD 0)) := rfl
            generalize ord r 8 = o1m4 at *
            generalize ord r 9 = o2m4 at *
            have hm1 := hR.c.mcell o1m4.toNat (by rw [Hm.out]; omega)
            have hm2 := hR.c.mcell o2m4.toNat (by rw [Hm.out]; omega)
            have hx1 := Hm32.out o1m4.toNat
            have hx2 := Hm32.out o2m4.toNat
            generalize m[o1m4.toNat]?.getD 0 = x1m4 at *
            generalize m[o2m4.toNat]?.getD 0 = x2m4 at *
            have HR := Lib.hid hR
            clear hR
            refine wpStill_load_row rfl 143 _ rfl _ rfl 143 _ _ _ HR.out.c.hv undA16 rfl (infoA16 HL4.out) ?_
            repeat still_step
            refine wpStill_nil ?_
            go_wp2_with fail
            refine (mix_any V4 0 5 10 15 x1m4 x2m4 _ HL4.out H324.out (by omega) (by omega) (by omega) (by omega) (by omega) (by omega) (by omega) (by omega) (by decide) (by decide) (by decide) (by decide) (by decide) (by decide) hx1.1 hx1.2 hx2.1 hx2.2).mono ?_
            rintro e w' ⟨rfl, hb⟩
            clear hz1 hz2 hm1 hm2 b1 b2 b3 b4 hx1 hx2
            have hR' := HR.out.later hb (Nat.le_refl _)
            have hR2 : RInv w h m (mixR m r 4 0 5 10 15 V4) zb r (w'.setRow (w.heap.size + 1 + 1 + 1) (u32v (mixR m r 4 0 5 10 15 V4))) := hR'.setV _
            have HV' : Hid (w'.heap[w.heap.size + 1 + 1 + 1]? = _) := hR'.c.hv
            have hM' : mixL V4 (Int.toNat 0) (Int.toNat 5) (Int.toNat 10) (Int.toNat 15) x1m4 x2m4 = mixR m r 4 0 5 10 15 V4 := hM.out.symm
            rw [hM']
            clear hM hM' hb hR' HR HR4
            have HR5 := Lib.hid hR2
            clear hR2
            have HL5 : Hid ((mixR m r 4 0 5 10 15 V4).length = 16) := (mixR_len _ _ _ _ _ _ _ _).trans HL4.out
            have H325 : Hid (W32 (mixR m r 4 0 5 10 15 V4)) := mixR_32 H324.out _ _ _ _ _ _ _
            generalize hV5 : mixR m r 4 0 5 10 15 V4 = V5 at *
            have HE5 := Lib.hid hV5
            clear hV5
            go_wp2_with (refine wpList_store_row rfl 143 _ _ rfl (w.heap.size + 1 + 1 + 1) (u32v V5) rfl rfl 143 _ HV'.out (infoA16 HL5.out) (sz16 HL4.out HL5.out) (u32v_one _) ?_)
            clear HV'
            generalize w'.setRow (w.heap.size + 1 + 1 + 1) (u32v V5) = W5 at *
            clear HL4 H324 w' W
            -- mix 5
            refine wp_region_still_tail 9 (by kernel_rfl) (by kernel_rfl) ?_
            simp only [List.take_succ_cons, List.take_zero, List.drop_succ_cons, List.drop_zero]
            change wpStill _ _ W5.drew (fun a' => wpList _ _ _ _ a' W5.drew) _ _
            have hR := HR5.out.drew
            generalize W5.drew = W at *
            have hz1 := hR.zcell hlt 10 (by omega)
            have hz2 := hR.zcell hlt 11 (by omega)
            obtain ⟨b1, b2⟩ := ord_b r 10
            obtain ⟨b3, b4⟩ := ord_b r 11
            have hM : Hid (mixR m r 5 1 6 11 12 V5 = mixL V5 1 6 11 12 (m[(ord r 10).toNat]?.getD 0) (m[(ord r 11).toNat]?.getD 0)) := rfl
            generalize ord r 10 = o1m5 at *
            generalize ord r 11 = o2m5 at *
            have hm1 := hR.c.mcell o1m5.toNat (by rw [Hm.out]; omega)
            have hm2 := hR.c.mcell o2m5.toNat (by rw [Hm.out]; omega)
            have hx1 := Hm32.out o1m5.toNat
            have hx2 := Hm32.out o2m5.toNat
            generalize m[o1m5.toNat]?.getD 0 = x1m5 at *
            generalize m[o2m5.toNat]?.getD 0 = x2m5 at *
            have HR := Lib.hid hR
            clear hR
            refine wpStill_load_row rfl 143 _ rfl _ rfl 143 _ _ _ HR.out.c.hv undA16 rfl (infoA16 HL5.out) ?_
            repeat still_step
            refine wpStill_nil ?_
            go_wp2_with fail
            refine (mix_any V5 1 6 11 12 x1m5 x2m5 _ HL5.out H325.out (by omega) (by omega) (by omega) (by omega) (by omega) (by omega) (by omega) (by omega) (by decide) (by decide) (by decide) (by decide) (by decide) (by decide) hx1.1 hx1.2 hx2.1 hx2.2).mono ?_
            rintro e w' ⟨rfl, hb⟩
            clear hz1 hz2 hm1 hm2 b1 b2 b3 b4 hx1 hx2
            have hR' := HR.out.later hb (Nat.le_refl _)
            have hR2 : RInv w h m (mixR m r 5 1 6 11 12 V5) zb r (w'.setRow (w.heap.size + 1 + 1 + 1) (u32v (mixR m r 5 1 6 11 12 V5))) := hR'.setV _
            have HV' : Hid (w'.heap[w.heap.size + 1 + 1 + 1]? = _) := hR'.c.hv
            have hM' : mixL V5 (Int.toNat 1) (Int.toNat 6) (Int.toNat 11) (Int.toNat 12) x1m5 x2m5 = mixR m r 5 1 6 11 12 V5 := hM.out.symm
            rw [hM']
            clear hM hM' hb hR' HR HR5
            have HR6 := Lib.hid hR2
            clear hR2
            have HL6 : Hid ((mixR m r 5 1 6 11 12 V5).length = 16) := (mixR_len _ _ _ _ _ _ _ _).trans HL5.out
            have H326 : Hid (W32 (mixR m r 5 1 6 11 12 V5)) := mixR_32 H325.out _ _ _ _ _ _ _
            generalize hV6 : mixR m r 5 1 6 11 12 V5 = V6 at *
            have HE6 := Lib.hid hV6
            clear hV6
            go_wp2_with (refine wpList_store_row rfl 143 _ _ rfl (w.heap.size + 1 + 1 + 1) (u32v V6) rfl rfl 143 _ HV'.out (infoA16 HL6.out) (sz16 HL5.out HL6.out) (u32v_one _) ?_)
            clear HV'
            generalize w'.setRow (w.heap.size + 1 + 1 + 1) (u32v V6) = W6 at *
            clear HL5 H325 w' W
            -- mix 6
            refine wp_region_still_tail 9 (by kernel_rfl) (by kernel_rfl) ?_
            simp only [List.take_succ_cons, List.take_zero, List.drop_succ_cons, List.drop_zero]
            change wpStill _ _ W6.drew (fun a' => wpList _ _ _ _ a' W6.drew) _ _
            have hR := HR6.out.drew
            generalize W6.drew = W at *
            have hz1 := hR.zcell hlt 12 (by omega)
            have hz2 := hR.zcell hlt 13 (by omega)
            obtain ⟨b1, b2⟩ := ord_b r 12
            obtain ⟨b3, b4⟩ := ord_b r 13
            have hM : Hid (mixR m r 6 2 7 8 13 V6 = mixL V6 2 7 8 13 (m[(ord r 12).toNat]?.getD 0) (m[(ord r 13).toNat]?.getD 0)) := rfl
            generalize ord r 12 = o1m6 at *
            generalize ord r 13 = o2m6 at *
            have hm1 := hR.c.mcell o1m6.toNat (by rw [Hm.out]; omega)
            have hm2 := hR.c.mcell o2m6.toNat (by rw [Hm.out]; omega)
            have hx1 := Hm32.out o1m6.toNat
            have hx2 := Hm32.out o2m6.toNat
            generalize m[o1m6.toNat]?.getD 0 = x1m6 at *
            generalize m[o2m6.toNat]?.getD 0 = x2m6 at *
            have HR := Lib.hid hR
            clear hR
            refine wpStill_load_row rfl 143 _ rfl _ rfl 143 _ _ _ HR.out.c.hv undA16 rfl (infoA16 HL6.out) ?_
            repeat still_step
            refine wpStill_nil ?_
            go_wp2_with fail
            refine (mix_any V6 2 7 8 13 x1m6 x2m6 _ HL6.out H326.out (by omega) (by omega) (by omega) (by omega) (by omega) (by omega) (by omega) (by omega) (by decide) (by decide) (by decide) (by decide) (by decide) (by decide) hx1.1 hx1.2 hx2.1 hx2.2).mono ?_
            rintro e w' ⟨rfl, hb⟩
            clear hz1 hz2 hm1 hm2 b1 b2 b3 b4 hx1 hx2
            have hR' := HR.out.later hb (Nat.le_refl _)
            have hR2 : RInv w h m (mixR m r 6 2 7 8 13 V6) zb r (w'.setRow (w.heap.size + 1 + 1 + 1) (u32v (mixR m r 6 2 7 8 13 V6))) := hR'.setV _
            have HV' : Hid (w'.heap[w.heap.size + 1 + 1 + 1]? = _) := hR'.c.hv
            have hM' : mixL V6 (Int.toNat 2) (Int.toNat 7) (Int.toNat 8) (Int.toNat 13) x1m6 x2m6 = mixR m r 6 2 7 8 13 V6 := hM.out.symm
            rw [hM']
            clear hM hM' hb hR' HR HR6
            have HR7 := Lib.hid hR2
            clear hR2
            have HL7 : Hid ((mixR m r 6 2 7 8 13 V6).length = 16) := (mixR_len _ _ _ _ _ _ _ _).trans HL6.out
            have H327 : Hid (W32 (mixR m r 6 2 7 8 13 V6)) := mixR_32 H326.out _ _ _ _ _ _ _
            generalize hV7 : mixR m r 6 2 7 8 13 V6 = V7 at *
            have HE7 := Lib.hid hV7
            clear hV7
            go_wp2_with (refine wpList_store_row rfl 143 _ _ rfl (w.heap.size + 1 + 1 + 1) (u32v V7) rfl rfl 143 _ HV'.out (infoA16 HL7.out) (sz16 HL6.out HL7.out) (u32v_one _) ?_)
            clear HV'
            generalize w'.setRow (w.heap.size + 1 + 1 + 1) (u32v V7) = W7 at *
            clear HL6 H326 w' W
            -- mix 7
            refine wp_region_still_tail 9 (by kernel_rfl) (by kernel_rfl) ?_
            simp only [List.take_succ_cons, List.take_zero, List.drop_succ_cons, List.drop_zero]
            change wpStill _ _ W7.drew (fun a' => wpList _ _ _ _ a' W7.drew) _ _
            have hR := HR7.out.drew
            generalize W7.drew = W at *
            have hz1 := hR.zcell hlt 14 (by omega)
            have hz2 := hR.zcell hlt 15 (by omega)
            obtain ⟨b1, b2⟩ := ord_b r 14
            obtain ⟨b3, b4⟩ := ord_b r 15
            have hM : Hid (mixR m r 7 3 4 9 14 V7 = mixL V7 3 4 9 14 (m[(ord r 14).toNat]?.getD 0) (m[(ord r 15).toNat]?.getD 0)) := rfl
            generalize ord r 14 = o1m7 at *
            generalize ord r 15 = o2m7 at *
            have hm1 := hR.c.mcell o1m7.toNat (by rw [Hm.out]; omega)
            have hm2 := hR.c.mcell o2m7.toNat (by rw [Hm.out]; omega)
            have hx1 := Hm32.out o1m7.toNat
            have hx2 := Hm32.out o2m7.toNat
            generalize m[o1m7.toNat]?.getD 0 = x1m7 at *
            generalize m[o2m7.toNat]?.getD 0 = x2m7 at *
            have HR := Lib.hid hR
            clear hR
            refine wpStill_load_row rfl 143 _ rfl _ rfl 143 _ _ _ HR.out.c.hv undA16 rfl (infoA16 HL7.out) ?_
            repeat still_step
            refine wpStill_nil ?_
            go_wp2_with fail
            refine (mix_any V7 3 4 9 14 x1m7 x2m7 _ HL7.out H327.out (by omega) (by omega) (by omega) (by omega) (by omega) (by omega) (by omega) (by omega) (by decide) (by decide) (by decide) (by decide) (by decide) (by decide) hx1.1 hx1.2 hx2.1 hx2.2).mono ?_
            rintro e w' ⟨rfl, hb⟩
            clear hz1 hz2 hm1 hm2 b1 b2 b3 b4 hx1 hx2
            have hR' := HR.out.later hb (Nat.le_refl _)
            have hR2 : RInv w h m (mixR m r 7 3 4 9 14 V7) zb r (w'.setRow (w.heap.size + 1 + 1 + 1) (u32v (mixR m r 7 3 4 9 14 V7))) := hR'.setV _
            have HV' : Hid (w'.heap[w.heap.size + 1 + 1 + 1]? = _) := hR'.c.hv
            have hM' : mixL V7 (Int.toNat 3) (Int.toNat 4) (Int.toNat 9) (Int.toNat 14) x1m7 x2m7 = mixR m r 7 3 4 9 14 V7 := hM.out.symm
            rw [hM']
            clear hM hM' hb hR' HR HR7
            have HR8 := Lib.hid hR2
            clear hR2
            have HL8 : Hid ((mixR m r 7 3 4 9 14 V7).length = 16) := (mixR_len _ _ _ _ _ _ _ _).trans HL7.out
            have H328 : Hid (W32 (mixR m r 7 3 4 9 14 V7)) := mixR_32 H327.out _ _ _ _ _ _ _
            generalize hV8 : mixR m r 7 3 4 9 14 V7 = V8 at *
            have HE8 := Lib.hid hV8
            clear hV8
            go_wp2_with (refine wpList_store_row rfl 143 _ _ rfl (w.heap.size + 1 + 1 + 1) (u32v V8) rfl rfl 143 _ HV'.out (infoA16 HL8.out) (sz16 HL7.out HL8.out) (u32v_one _) ?_)
            clear HV'
            generalize w'.setRow (w.heap.size + 1 + 1 + 1) (u32v V8) = W8 at *
            clear HL7 H327 w' W
            go_roundw
            case rel =>
              refine ⟨r + 1, by omega, by go_num, ?_⟩
              have hE : roundL m V0 r = V8 := by
                unfold roundL
                rw [HE1.out, HE2.out, HE3.out, HE4.out, HE5.out, HE6.out, HE7.out, HE8.out]
              rw [← HRd.out, hE]
              exact HR8.out.c
            case measure => simp [Go.RowKit.intOf]; omega
          · obtain rfl : r = 10 := by omega
            clear hlt hr
            rw [show ((10 : Nat) : Int) = 10 from rfl]
            have HL0 : Hid ((rounds m v0 10).length = 16) := (rounds_len _ _ _).trans HV.out
            have HRR : Hid (compL h m t last = hOut h (rounds m v0 10) 8) := by rw [HVE.out]; rfl
            have HC := Lib.hid hC
            clear hC HVE HV HV32 HV0 Hvl
            generalize rounds m v0 10 = V at *
            go_wp2_with fail
            go_loopw [134] (fun i wr => ∃ k : Nat, k ≤ 8 ∧ i = .int .i64 k ∧ CInv w (hOut h V k) m V wr) (fun i _ => 8 - (Go.RowKit.intOf i).toNat)
            case atStart => exact ⟨0, by omega, rfl, HC.out⟩
            case round =>
              obtain ⟨k, hk, rfl, hC⟩ := hrel
              clear HC
              have HC := Lib.hid hC
              clear hC
              by_cases hlt : k < 8
              · have c1 := HC.out.hcell k (by rw [hOut_len, Hl.out]; exact hlt)
                have c2 := HC.out.vcell k (by rw [HL0.out]; omega)
                have c3 := HC.out.vcell (k + 8) (by rw [HL0.out]; omega)
                have f1 := HC.out.hfree k
                have g0 : (k : Int) < 16 := by omega
                have g1 : (0 : Int) ≤ (k : Int) + 8 := by omega
                have g2 : (k : Int) + 8 < 16 := by omega
                have g3 : ((k : Int) + 8).toNat = k + 8 := by omega
                have h1 : IntKind.i64.wrap ((k : Int) + 8) = (k : Int) + 8 := IntWalk.i64_in _ (by omega)
                have HM : Hid (hOut h V (k + 1) = (hOut h V k).set k (bits BinOp.xor IntKind.u32 ((hOut h V k)[k]?.getD 0) (bits BinOp.xor IntKind.u32 (V[k]?.getD 0) (V[k + 8]?.getD 0)))) := rfl
                generalize (hOut h V k)[k]?.getD 0 = y1 at *
                generalize V[k]?.getD 0 = y2 at *
                generalize V[k + 8]?.getD 0 = y3 at *
                go_wp2_with fail
                go_still_tail 13, (by kernel_rfl)
                change wpList _ _ _ _ _ wr.drew
                have HC' := Lib.hid HC.out.drew
                have c1' : wr.drew.cell? ⟨w.heap.size, k, none⟩ = some (.int .u32 y1) := c1
                have f1' : wr.drew.frozen? ⟨w.heap.size, k, none⟩ = false := f1
                generalize wr.drew = w2 at *
                clear HC c1 c2 c3 f1 g0 g1 g2 g3 h1
                go_wp2_with fail
                go_roundw
                case rel =>
                  refine ⟨k + 1, by omega, by go_num, ?_⟩
                  rw [HM.out]
                  exact HC'.out.setHcell k _
                case measure => simp [Go.RowKit.intOf]; omega
              · obtain rfl : k = 8 := by omega
                clear hlt hk
                rw [show ((8 : Nat) : Int) = 8 from rfl]
                rw [← HRR.out] at HC
                have HLc : Hid ((compL h m t last).length = 8) := by rw [HRR.out, hOut_len]; exact Hl.out
                generalize hHE : compL h m t last = H at *
                have HHE := Lib.hid hHE
                clear hHE
                go_wp2_with (first | (refine wpList_load_row rfl 141 _ rfl _ rfl 141 _ _ _ HC.out.hh undA8 rfl (infoA8 HLc.out) ?_) | (refine wpList_store_row rfl 141 _ _ rfl _ _ rfl rfl 141 _ HC.out.ho (infoA8 HLc.out) (sz8 HLc.out) (u32v_one _) ?_))
                refine bodyPost_ret (v := .agg (u32v H)) ?_ rfl ⟨by rw [HHE.out], ?_⟩
                · exact results_cell_row rfl _ _ _ 141 _ (0, 0) _ rfl (setRow_heap _ _ _ _ _ _ HC.out.ho) undA8 rfl (infoA8 HLc.out)
                · exact below_setRow HC.out.below (by omega) _
end Go.Proofs.YtepidpegoihllaaGreatDoor

