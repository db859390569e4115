/- digest.Sum returns the 32 bytes that the plain function sumB says, for every string of at most 1000000 bytes. -/
import Derived.Lib.Strings
import Derived.Test.YtepidpegoihllaaGreatDoorComp
import Derived.Test.YtepidpegoihllaaGreatDoorLoad
namespace Go.Proofs.YtepidpegoihllaaGreatDoor
open Go.RowKit
/-- the state before the first block -/
def h0L : List Int := startL.set 0 (bits BinOp.xor IntKind.u32 1779033703 16842784)
/-- the bytes of a string from a on, n at most -/
def blk (s : List UInt8) (a n : Nat) : List UInt8 := (s.drop a).take n
/-- the state after k whole blocks that are not the last -/
def hAt (s : List UInt8) : Nat → List Int
  | 0 => h0L
  | k + 1 => compL (hAt s k) (wUpto (blk s (64 * k) 64) 64) (64 * (k + 1) : Nat) false
theorem hAt_len (s : List UInt8) (k : Nat) : (hAt s k).length = 8 := by
  induction k with
  | zero => rfl
  | succ k ih => simp [hAt, compL, hOut_len, ih]
theorem h0L_32 : W32 h0L := startL_32.set 0 (bits_lo_u32 _ _ _) (bits_hi_u32 _ _ _)
theorem hAt_32 (s : List UInt8) (k : Nat) : W32 (hAt s k) := by
  induction k with
  | zero => exact h0L_32
  | succ k ih => exact hOut_32 ih _ _
/-- the state after the last block -/
def hFin (s : List UInt8) : List Int :=
  compL (hAt s ((s.length - 1) / 64)) (wUpto (blk s (64 * ((s.length - 1) / 64)) 64) (s.length - 64 * ((s.length - 1) / 64))) (s.length : Int) true
theorem hFin_len (s : List UInt8) : (hFin s).length = 8 := by rw [hFin, compL, hOut_len]; exact hAt_len _ _
theorem hFin_32 (s : List UInt8) : W32 (hFin s) := hOut_32 (hAt_32 _ _) _ _
/-- the four bytes of a word, the lowest first -/
def wordB (x : Int) : List UInt8 := [UInt8.ofNat (x % 256).toNat, UInt8.ofNat (x / 256 % 256).toNat, UInt8.ofNat (x / 65536 % 256).toNat, UInt8.ofNat (x / 16777216).toNat]
theorem byte_of (x : Int) (h0 : 0 ≤ x) (h1 : x < 256) : (((UInt8.ofNat x.toNat).toNat : Nat) : Int) = x := by
  simp only [UInt8.toNat_ofNat', Nat.reducePow]
  omega
theorem wordB_V (x : Int) (h0 : 0 ≤ x) (h1 : x ≤ 4294967295) : bytesV (wordB x) = [.int .u8 (x % 256), .int .u8 (x / 256 % 256), .int .u8 (x / 65536 % 256), .int .u8 (x / 16777216)] := by
  simp only [bytesV, wordB, List.map_cons, List.map_nil]
  rw [byte_of _ (by omega) (by omega), byte_of _ (by omega) (by omega), byte_of _ (by omega) (by omega), byte_of _ (by omega) (by omega)]
/-- the bytes of the first k words -/
def outB (h : List Int) : Nat → List UInt8
  | 0 => []
  | k + 1 => outB h k ++ wordB (h[k]?.getD 0)
theorem outB_len (h : List Int) (k : Nat) : (outB h k).length = 4 * k := by
  induction k with
  | zero => rfl
  | succ k ih => simp [outB, ih, wordB]; omega
/-- the digest of a string -/
def sumB (s : List UInt8) : List UInt8 := outB (hFin s) 8
theorem sumB_len (s : List UInt8) : (sumB s).length = 32 := outB_len _ _
/-- a word of an array value -/
theorem index_A8 (h : List Int) (hl : h.length = 8) (j : Nat) (hj : j < 8) (w : World) : (Instr.index 141 (.agg (u32v h)) (.int .i64 (j : Int))).run Tryz.prog w = .ok (.int .u32 (h[j]?.getD 0)) w := by
  have hs : (Tryz.prog.info? 140).map (·.size) = some 1 := by kernel_rfl
  have hu : Tryz.prog.underlying 140 = some (.int .u32) := by kernel_rfl
  have hg := u32v_get h j (by omega)
  cases hq : Tryz.prog.info? 140 with
  | none => simp [hq] at hs
  | some i =>
    have hs' : i.size = 1 := by simpa [hq] using hs
    have hj' : ((j : Int) < 8) := by omega
    simp [Instr.index, asIntOf, run_underlying undA8, sizeOf, typeInfo, hq, hs', part, isAgg, run_underlying hu, hg]
    omega
/-- what Sum holds in memory: the state -/
structure SInv (w0 : World) (h : List Int) (w : World) : Prop where
  hh : w.heap[w0.heap.size]? = some (.cells (u32v h) 141 (0, 0))
  below : Below w0.heap.size w0 w
  glob : Glob w
theorem SInv.later {w0 w w' : World} {h : List Int} {B : Nat} (c : SInv w0 h w) (hb : Below B w w') (hB : w.heap.size ≤ B) : SInv w0 h w' :=
  ⟨blk_below c.hh hb (Nat.lt_of_lt_of_le (blk_lt c.hh) hB), c.below.trans (hb.mono (Nat.le_trans c.below.size hB)), c.glob.below hb (Nat.le_trans c.glob.size hB)⟩
theorem SInv.drew {w0 w : World} {h : List Int} (c : SInv w0 h w) : SInv w0 h w.drew := c.later (Below.refl w.heap.size w).drew (Nat.le_refl _)
theorem SInv.set {w0 w : World} {h : List Int} (c : SInv w0 h w) (hw : 1 + 1 ≤ w0.heap.size) (h' : List Int) : SInv w0 h' (w.setRow w0.heap.size (u32v h')) :=
  ⟨setRow_heap _ _ _ _ _ _ c.hh, below_setRow c.below (Nat.le_refl _) _, c.glob.below (B := w0.heap.size) (below_setRow (Below.refl _ _) (Nat.le_refl _) _) hw⟩
theorem SInv.setCell {w0 w : World} {h : List Int} (c : SInv w0 h w) (hw : 1 + 1 ≤ w0.heap.size) (i : Nat) (z : Int) : SInv w0 (h.set i z) (w.setCell ⟨w0.heap.size, i, none⟩ (.int .u32 z)) := by
  rw [setCell_eq_setRow _ _ _ _ _ _ _ c.hh, u32v_set]
  exact c.set hw _
set_option maxRecDepth 100000 in
set_option maxHeartbeats 1000000 in
theorem sum_any (s : ByteArray) (w : World) (hg : Glob w) (hs : s.size ≤ 100000000) :
    Calls Tryz.prog 55 #[.string s] w fun e w' => e = .returned (.string ⟨(sumB s.data.toList).toArray⟩) ∧ Below w.heap.size w w' := by
  have Hg := Lib.hid hg
  have Hsz := Lib.hid hg.size
  clear hg
  go_enter Tryz.func55, Tryz.ntmps55
  go_upto_region 2 with (first | (refine wpList_load_mid rfl 141 _ rfl 0 0 rfl (startL.map (Value.int .u32)) _ Hg.out.start undA8 rfl (by rw [List.length_map]; kernel_rfl) ?_) | (refine wpList_store_row rfl 141 _ _ rfl w.heap.size (u32v startL) rfl rfl 141 _ (heap_alloc_new _ _) (infoA8 rfl) rfl (u32v_one _) ?_))
  rw [show ∀ Z, (w.alloc (Obj.cells Z 141)).setRow w.heap.size (u32v startL) = w.alloc (.cells (u32v startL) 141) from fun Z => World.setRow_alloc_new _ _ _ _]
  have HI0 : Hid (SInv w startL (w.alloc (.cells (u32v startL) 141))) := Lib.hid ⟨heap_alloc_new _ _, (Below.refl _ _).alloc (Nat.le_refl _) _, Hg.out.below ((Below.refl w.heap.size w).alloc (Nat.le_refl _) _) Hsz.out⟩
  generalize w.alloc (.cells (u32v startL) 141) = W0 at *
  have c0 : W0.cell? ⟨w.heap.size, 0, none⟩ = some (.int .u32 1779033703) := (cell_of_row _ _ _ _ _ _ HI0.out.hh).trans rfl
  have f0 : W0.frozen? ⟨w.heap.size, 0, none⟩ = false := frozen_of_row _ _ _ _ _ HI0.out.hh
  go_upto_region 3 with (fail)
  have HI : Hid (SInv w h0L (W0.setCell ⟨w.heap.size, 0, none⟩ (.int .u32 (bits BinOp.xor IntKind.u32 1779033703 16842784)))) := Lib.hid (HI0.out.setCell Hsz.out 0 _)
  generalize W0.setCell ⟨w.heap.size, 0, none⟩ (.int .u32 (bits BinOp.xor IntKind.u32 1779033703 16842784)) = W1 at *
  clear c0 f0 HI0 W0
  go_wp2_with fail
  go_loopw [4] (fun d wr => ∃ k : Nat, d = .int .i64 (64 * (k : Int)) ∧ 64 * k ≤ s.size ∧ (0 < k → 64 * k < s.size) ∧ SInv w (hAt s.data.toList k) wr) (fun d _ => s.size - (Go.RowKit.intOf d).toNat)
  case atStart => exact ⟨0, rfl, by omega, by omega, HI.out⟩
  case round =>
    obtain ⟨k, rfl, hk1, hk2, hI⟩ := hrel
    clear HI
    have HI := Lib.hid hI
    clear hI
    by_cases hlt : 64 < s.size - 64 * k
    · go_wp2_with fail
      have g0 : (0 : Int) ≤ 64 * (k : Int) := by omega
      have g1 : (0 : Int) ≤ 64 * (k : Int) + 64 := by omega
      have g2 : 64 * (k : Int) + 64 ≤ (s.size : Int) := by omega
      have g3 : IntKind.i64.wrap (64 * (k : Int)) = 64 * (k : Int) := IntWalk.i64_in _ (by omega)
      have g5 : 64 * (k : Int) ≤ 64 * (k : Int) + 64 := by omega
      have g6 : (64 * (k : Int)).toNat = 64 * k := by omega
      have g7 : (64 * (k : Int) + 64).toNat = 64 * k + 64 := by omega
      have g4 : IntKind.u64.wrap (64 * (k : Int) + 64) = 64 * (k : Int) + 64 := IntWalk.u64_in _ (by omega)
      have HL : (hAt s.data.toList k).length = 8 := hAt_len _ _
      have H32 : W32 (hAt s.data.toList k) := hAt_32 _ _
      have HCL : ∀ {m : List Int} {t : Int} {b : Bool}, (compL (hAt s.data.toList k) m t b).length = 8 := by intro m t b; rw [compL, hOut_len]; exact HL
      have T0 : (0 : Int) ≤ 64 * (k : Int) + 64 := by omega
      have T1 : 64 * (k : Int) + 64 ≤ 1000000000000 := by omega
      refine wp_region_noPanic ?_
      refine wp_region_held_drew (S := fun _ => True) (by kernel_rfl) trivial (fun hHeld => ?_)
      have HI' := Lib.hid HI.out.drew
      generalize wr.drew = W at *
      clear HI
      refine' wpAnyH_take (i := 1) (v := _) (by simp only [List.getElem?_toArray, List.getElem?_cons_succ, List.getElem?_cons_zero]; exact rfl) (by kernel_rfl) (by kernel_rfl) (by kernel_rfl) (fun _ _ _ h => h) (Or.inl ⟨by rfl, ?y1⟩) trivial ?r1
      case y1 => (intro w hSw; go_simp; try with_reducible rfl)
      try simp only [Act.put, List.setIfInBounds_toArray, List.set_cons_zero, List.set_cons_succ]
      refine' wpAnyH_take (i := 2) (v := _) (by simp only [List.getElem?_toArray, List.getElem?_cons_succ, List.getElem?_cons_zero]; exact rfl) (by kernel_rfl) (by kernel_rfl) (by kernel_rfl) (fun _ _ _ h => h) (Or.inl ⟨by rfl, ?y2⟩) trivial ?r2
      case y2 => (intro w hSw; go_simp; try with_reducible rfl)
      try simp only [Act.put, List.setIfInBounds_toArray, List.set_cons_zero, List.set_cons_succ]
      refine' wpAnyH_take (i := 3) (v := _) (by simp only [List.getElem?_toArray, List.getElem?_cons_succ, List.getElem?_cons_zero]; exact rfl) (by kernel_rfl) (by kernel_rfl) (by kernel_rfl) (fun _ _ _ h => h) (Or.inl ⟨by rfl, ?y3⟩) trivial ?r3
      case y3 => (intro w hSw; go_simp; try with_reducible rfl)
      try simp only [Act.put, List.setIfInBounds_toArray, List.set_cons_zero, List.set_cons_succ]
      refine' wpAnyH_take (i := 4) (v := _) (by simp only [List.getElem?_toArray, List.getElem?_cons_succ, List.getElem?_cons_zero]; exact rfl) (by kernel_rfl) (by kernel_rfl) (by kernel_rfl) (fun _ _ _ h => h) (Or.inl ⟨by rfl, ?y4⟩) trivial ?r4
      case y4 => (intro w hSw; go_simp; try with_reducible rfl)
      try simp only [Act.put, List.setIfInBounds_toArray, List.set_cons_zero, List.set_cons_succ]
      refine' wpAnyH_take (i := 5) (v := _) (by simp only [List.getElem?_toArray, List.getElem?_cons_succ, List.getElem?_cons_zero]; exact rfl) (by kernel_rfl) (by kernel_rfl) (by kernel_rfl) (fun _ _ _ h => h) (Or.inl ⟨by rfl, ?y5⟩) trivial ?r5
      case y5 => (intro w hSw; go_simp; try with_reducible rfl)
      try simp only [Act.put, List.setIfInBounds_toArray, List.set_cons_zero, List.set_cons_succ]
      refine' wpAnyH_take (i := 7) (v := _) (by simp only [List.getElem?_toArray, List.getElem?_cons_succ, List.getElem?_cons_zero]; exact rfl) (by kernel_rfl) (by kernel_rfl) (by kernel_rfl) (fun _ _ _ h => h) (Or.inl ⟨by rfl, ?y7⟩) trivial ?r7
      case y7 => (intro w hSw; go_simp; try with_reducible rfl)
      try simp only [Act.put, List.setIfInBounds_toArray, List.set_cons_zero, List.set_cons_succ]
      refine' wpAnyH_take (i := 8) (v := _) (by simp only [List.getElem?_toArray, List.getElem?_cons_succ, List.getElem?_cons_zero]; exact rfl) (by kernel_rfl) (by kernel_rfl) (by kernel_rfl) (fun _ _ _ h => h) (Or.inl ⟨by rfl, ?y8⟩) trivial ?r8
      case y8 => (intro w hSw; go_simp; try with_reducible rfl)
      try simp only [Act.put, List.setIfInBounds_toArray, List.set_cons_zero, List.set_cons_succ]
      generalize hx : s.extract (64 * k) (64 * k + 64) = X at *
      have hX : X.size ≤ 64 := by rw [← hx, ByteArray.size_extract]; omega
      have hE : Hid (compL (hAt s.data.toList k) (wUpto (blk s.data.toList (64 * k) 64) 64) ((64 * (k + 1) : Nat) : Int) false = compL (hAt s.data.toList k) (wUpto X.data.toList X.size) (64 * (k : Int) + 64) false) := by
        have e1 : X.size = 64 := by rw [← hx, ByteArray.size_extract]; omega
        have e2 : X.data.toList = blk s.data.toList (64 * k) 64 := by rw [← hx, Lib.extract_data, blk]; congr 1; omega
        have e3 : ((64 * (k + 1) : Nat) : Int) = 64 * (k : Int) + 64 := by omega
        show _ = _
        rw [e1, e2, e3]
      clear hx g0 g1 g2 g3 g4 g5 g6 g7
      refine wpAnyH_ready (rs := [0, 6]) (by kernel_rfl) (by simp) ?_
      refine AllReadyH.cons (by simp only [List.getElem?_toArray, List.getElem?_cons_zero]; exact rfl) (fun K hK => ?_) (AllReadyH.cons (by simp only [List.getElem?_toArray, List.getElem?_cons_succ, List.getElem?_cons_zero]; exact rfl) (fun K hK => ?_) AllReadyH.nil)
      · rw [if_pos (by rfl)]
        refine wp_load_row 141 _ rfl _ rfl 141 _ _ _ HI'.out.hh undA8 rfl (infoA8 HL) ?_
        refine hK.out _ _ trivial (fun _ => ?_)
        clear hK K
        try simp only [Act.put, List.setIfInBounds_toArray, List.set_cons_zero, List.set_cons_succ]
        refine wpAnyH_ready (rs := [6]) (by kernel_rfl) (by simp) ?_
        refine AllReadyH.cons (by simp only [List.getElem?_toArray, List.getElem?_cons_succ, List.getElem?_cons_zero]; exact rfl) (fun K1 hK1 => ?_) AllReadyH.nil
        rw [if_pos (by rfl)]
        go_simp
        refine (words_any _ _ hX).mono ?_
        rintro e w1 ⟨rfl, hb⟩
        have HI1 := Lib.hid (HI'.out.later hb (Nat.le_refl _))
        clear hb HI'
        refine hK1.out _ _ trivial (fun _ => ?_)
        clear hK1 K1
        try simp only [Act.put, List.setIfInBounds_toArray, List.set_cons_zero, List.set_cons_succ]
        refine wpAnyH_ready (rs := [9]) (by kernel_rfl) (by simp) ?_
        refine AllReadyH.cons (by simp only [List.getElem?_toArray, List.getElem?_cons_succ, List.getElem?_cons_zero]; exact rfl) (fun K2 hK2 => ?_) AllReadyH.nil
        rw [if_pos (by rfl)]
        go_simp
        refine (comp_any _ _ _ _ _ HI1.out.glob HL (wUpto_len _ _) H32 (wUpto_32 _ _) T0 T1).mono ?_
        rintro e w2 ⟨rfl, hb⟩
        have HI2 := Lib.hid (HI1.out.later hb (Nat.le_refl _))
        clear hb HI1
        refine hK2.out _ _ trivial (fun _ => ?_)
        clear hK2 K2
        try simp only [Act.put, List.setIfInBounds_toArray, List.set_cons_zero, List.set_cons_succ]
        refine wpAnyH_ready (rs := [10]) (by kernel_rfl) (by simp) ?_
        refine AllReadyH.cons (by simp only [List.getElem?_toArray, List.getElem?_cons_succ, List.getElem?_cons_zero]; exact rfl) (fun K3 hK3 => ?_) AllReadyH.nil
        rw [if_pos (by rfl)]
        refine wp_store_row 141 _ _ rfl _ _ rfl rfl 141 _ HI2.out.hh (infoA8 HCL) (by rw [u32v_size, u32v_size, HL, HCL]) (u32v_one _) ?_
        refine hK3.out _ _ trivial (fun _ => ?_)
        clear hK3 K3
        try simp only [Act.put]
        have HI3 := Lib.hid (HI2.out.set Hsz.out (compL (hAt s.data.toList k) (wUpto X.data.toList X.size) (64 * (k : Int) + 64) false))
        refine wpAnyH_done (by kernel_rfl) ?_ _
        refine NoPanic.normal ?_
        go_wp2_with fail
        go_roundw
        case rel => exact ⟨k + 1, by go_num, by omega, fun _ => by omega, by rw [hAt, hE.out]; exact HI3.out⟩
        case measure => simp [Go.RowKit.intOf]; omega
      · rw [if_pos (by rfl)]
        go_simp
        refine (words_any _ _ hX).mono ?_
        rintro e w1 ⟨rfl, hb⟩
        have HI1 := Lib.hid (HI'.out.later hb (Nat.le_refl _))
        clear hb HI'
        refine hK.out _ _ trivial (fun _ => ?_)
        clear hK K
        try simp only [Act.put, List.setIfInBounds_toArray, List.set_cons_zero, List.set_cons_succ]
        refine wpAnyH_ready (rs := [0]) (by kernel_rfl) (by simp) ?_
        refine AllReadyH.cons (by simp only [List.getElem?_toArray, List.getElem?_cons_zero]; exact rfl) (fun K1 hK1 => ?_) AllReadyH.nil
        rw [if_pos (by rfl)]
        refine wp_load_row 141 _ rfl _ rfl 141 _ _ _ HI1.out.hh undA8 rfl (infoA8 HL) ?_
        refine hK1.out _ _ trivial (fun _ => ?_)
        clear hK1 K1
        try simp only [Act.put, List.setIfInBounds_toArray, List.set_cons_zero, List.set_cons_succ]
        refine wpAnyH_ready (rs := [9]) (by kernel_rfl) (by simp) ?_
        refine AllReadyH.cons (by simp only [List.getElem?_toArray, List.getElem?_cons_succ, List.getElem?_cons_zero]; exact rfl) (fun K2 hK2 => ?_) AllReadyH.nil
        rw [if_pos (by rfl)]
        go_simp
        refine (comp_any _ _ _ _ _ HI1.out.glob HL (wUpto_len _ _) H32 (wUpto_32 _ _) T0 T1).mono ?_
        rintro e w2 ⟨rfl, hb⟩
        have HI2 := Lib.hid (HI1.out.later hb (Nat.le_refl _))
        clear hb HI1
        refine hK2.out _ _ trivial (fun _ => ?_)
        clear hK2 K2
        try simp only [Act.put, List.setIfInBounds_toArray, List.set_cons_zero, List.set_cons_succ]
        refine wpAnyH_ready (rs := [10]) (by kernel_rfl) (by simp) ?_
        refine AllReadyH.cons (by simp only [List.getElem?_toArray, List.getElem?_cons_succ, List.getElem?_cons_zero]; exact rfl) (fun K3 hK3 => ?_) AllReadyH.nil
        rw [if_pos (by rfl)]
        refine wp_store_row 141 _ _ rfl _ _ rfl rfl 141 _ HI2.out.hh (infoA8 HCL) (by rw [u32v_size, u32v_size, HL, HCL]) (u32v_one _) ?_
        refine hK3.out _ _ trivial (fun _ => ?_)
        clear hK3 K3
        try simp only [Act.put]
        have HI3 := Lib.hid (HI2.out.set Hsz.out (compL (hAt s.data.toList k) (wUpto X.data.toList X.size) (64 * (k : Int) + 64) false))
        refine wpAnyH_done (by kernel_rfl) ?_ _
        refine NoPanic.normal ?_
        go_wp2_with fail
        go_roundw
        case rel => exact ⟨k + 1, by go_num, by omega, fun _ => by omega, by rw [hAt, hE.out]; exact HI3.out⟩
        case measure => simp [Go.RowKit.intOf]; omega
    · go_wp2_with fail
      have g0 : (0 : Int) ≤ 64 * (k : Int) := by omega
      have g2 : 64 * (k : Int) ≤ (s.size : Int) := by omega
      have g3 : (64 * (k : Int)).toNat = 64 * k := by omega
      have g4 : IntKind.u64.wrap (s.size : Int) = (s.size : Int) := IntWalk.u64_in _ (by omega)
      have HL : (hAt s.data.toList k).length = 8 := hAt_len _ _
      have H32 : W32 (hAt s.data.toList k) := hAt_32 _ _
      have HCL : ∀ {m : List Int} {t : Int} {b : Bool}, (compL (hAt s.data.toList k) m t b).length = 8 := by intro m t b; rw [compL, hOut_len]; exact HL
      have T0 : (0 : Int) ≤ (s.size : Int) := by omega
      have T1 : (s.size : Int) ≤ 1000000000000 := by omega
      go_cut [] (fun w' => SInv w (hFin s.data.toList) w')
      case first =>
        refine wp_region_noPanic ?_
        refine wp_region_held_drew (S := fun _ => True) (by kernel_rfl) trivial (fun hHeld => ?_)
        have HI' := Lib.hid HI.out.drew
        generalize wr.drew = W at *
        clear HI
        refine' wpAnyH_take (i := 1) (v := _) (by simp only [List.getElem?_toArray, List.getElem?_cons_succ, List.getElem?_cons_zero]; exact rfl) (by kernel_rfl) (by kernel_rfl) (by kernel_rfl) (fun _ _ _ h => h) (Or.inl ⟨by rfl, ?y1x1xb⟩) trivial ?r1x1xb
        case y1x1xb => (intro w hSw; go_simp; try with_reducible rfl)
        try simp only [Act.put, List.setIfInBounds_toArray, List.set_cons_zero, List.set_cons_succ]
        refine' wpAnyH_take (i := 2) (v := _) (by simp only [List.getElem?_toArray, List.getElem?_cons_succ, List.getElem?_cons_zero]; exact rfl) (by kernel_rfl) (by kernel_rfl) (by kernel_rfl) (fun _ _ _ h => h) (Or.inl ⟨by rfl, ?y2x2xb⟩) trivial ?r2x2xb
        case y2x2xb => (intro w hSw; go_simp; try with_reducible rfl)
        try simp only [Act.put, List.setIfInBounds_toArray, List.set_cons_zero, List.set_cons_succ]
        refine' wpAnyH_take (i := 3) (v := _) (by simp only [List.getElem?_toArray, List.getElem?_cons_succ, List.getElem?_cons_zero]; exact rfl) (by kernel_rfl) (by kernel_rfl) (by kernel_rfl) (fun _ _ _ h => h) (Or.inl ⟨by rfl, ?y3x3xb⟩) trivial ?r3x3xb
        case y3x3xb => (intro w hSw; go_simp; try with_reducible rfl)
        try simp only [Act.put, List.setIfInBounds_toArray, List.set_cons_zero, List.set_cons_succ]
        refine' wpAnyH_take (i := 5) (v := _) (by simp only [List.getElem?_toArray, List.getElem?_cons_succ, List.getElem?_cons_zero]; exact rfl) (by kernel_rfl) (by kernel_rfl) (by kernel_rfl) (fun _ _ _ h => h) (Or.inl ⟨by rfl, ?y5x4xb⟩) trivial ?r5x4xb
        case y5x4xb => (intro w hSw; go_simp; try with_reducible rfl)
        try simp only [Act.put, List.setIfInBounds_toArray, List.set_cons_zero, List.set_cons_succ]
        refine' wpAnyH_take (i := 6) (v := _) (by simp only [List.getElem?_toArray, List.getElem?_cons_succ, List.getElem?_cons_zero]; exact rfl) (by kernel_rfl) (by kernel_rfl) (by kernel_rfl) (fun _ _ _ h => h) (Or.inl ⟨by rfl, ?y6x5xb⟩) trivial ?r6x5xb
        case y6x5xb => (intro w hSw; go_simp; try with_reducible rfl)
        try simp only [Act.put, List.setIfInBounds_toArray, List.set_cons_zero, List.set_cons_succ]
        refine' wpAnyH_take (i := 7) (v := _) (by simp only [List.getElem?_toArray, List.getElem?_cons_succ, List.getElem?_cons_zero]; exact rfl) (by kernel_rfl) (by kernel_rfl) (by kernel_rfl) (fun _ _ _ h => h) (Or.inl ⟨by rfl, ?y7x6xb⟩) trivial ?r7x6xb
        case y7x6xb => (intro w hSw; go_simp; try with_reducible rfl)
        try simp only [Act.put, List.setIfInBounds_toArray, List.set_cons_zero, List.set_cons_succ]
        generalize hx : s.extract (64 * k) s.size = X at *
        have hX : X.size ≤ 64 := by rw [← hx, ByteArray.size_extract]; omega
        have hE : Hid (hFin s.data.toList = compL (hAt s.data.toList k) (wUpto X.data.toList X.size) (s.size : Int) true) := by
          have e1 : X.size = s.size - 64 * k := by rw [← hx, ByteArray.size_extract]; omega
          have e2 : X.data.toList = blk s.data.toList (64 * k) 64 := by
            rw [← hx, Lib.extract_data, blk, List.take_of_length_le (by simp), List.take_of_length_le (by simp; omega)]
          have e3 : s.data.toList.length = s.size := by simp
          have e4 : (s.size - 1) / 64 = k := by omega
          show _ = _
          unfold hFin
          rw [e3, e4, e1, e2]
        clear hx g0 g2 g3 g4
        refine wpAnyH_ready (rs := [0, 4]) (by kernel_rfl) (by simp) ?_
        refine AllReadyH.cons (by simp only [List.getElem?_toArray, List.getElem?_cons_zero]; exact rfl) (fun K hK => ?_) (AllReadyH.cons (by simp only [List.getElem?_toArray, List.getElem?_cons_succ, List.getElem?_cons_zero]; exact rfl) (fun K hK => ?_) AllReadyH.nil)
        · rw [if_pos (by rfl)]
          refine wp_load_row 141 _ rfl _ rfl 141 _ _ _ HI'.out.hh undA8 rfl (infoA8 HL) ?_
          refine hK.out _ _ trivial (fun _ => ?_)
          clear hK K
          try simp only [Act.put, List.setIfInBounds_toArray, List.set_cons_zero, List.set_cons_succ]
          refine wpAnyH_ready (rs := [4]) (by kernel_rfl) (by simp) ?_
          refine AllReadyH.cons (by simp only [List.getElem?_toArray, List.getElem?_cons_succ, List.getElem?_cons_zero]; exact rfl) (fun K1 hK1 => ?_) AllReadyH.nil
          rw [if_pos (by rfl)]
          go_simp
          refine (words_any _ _ hX).mono ?_
          rintro e w1 ⟨rfl, hb⟩
          have HI1 := Lib.hid (HI'.out.later hb (Nat.le_refl _))
          clear hb HI'
          refine hK1.out _ _ trivial (fun _ => ?_)
          clear hK1 K1
          try simp only [Act.put, List.setIfInBounds_toArray, List.set_cons_zero, List.set_cons_succ]
          refine wpAnyH_ready (rs := [8]) (by kernel_rfl) (by simp) ?_
          refine AllReadyH.cons (by simp only [List.getElem?_toArray, List.getElem?_cons_succ, List.getElem?_cons_zero]; exact rfl) (fun K2 hK2 => ?_) AllReadyH.nil
          rw [if_pos (by rfl)]
          go_simp
          refine (comp_any _ _ _ _ _ HI1.out.glob HL (wUpto_len _ _) H32 (wUpto_32 _ _) T0 T1).mono ?_
          rintro e w2 ⟨rfl, hb⟩
          have HI2 := Lib.hid (HI1.out.later hb (Nat.le_refl _))
          clear hb HI1
          refine hK2.out _ _ trivial (fun _ => ?_)
          clear hK2 K2
          try simp only [Act.put, List.setIfInBounds_toArray, List.set_cons_zero, List.set_cons_succ]
          refine wpAnyH_ready (rs := [9]) (by kernel_rfl) (by simp) ?_
          refine AllReadyH.cons (by simp only [List.getElem?_toArray, List.getElem?_cons_succ, List.getElem?_cons_zero]; exact rfl) (fun K3 hK3 => ?_) AllReadyH.nil
          rw [if_pos (by rfl)]
          refine wp_store_row 141 _ _ rfl _ _ rfl rfl 141 _ HI2.out.hh (infoA8 HCL) (by rw [u32v_size, u32v_size, HL, HCL]) (u32v_one _) ?_
          refine hK3.out _ _ trivial (fun _ => ?_)
          clear hK3 K3
          try simp only [Act.put]
          have HI3 := Lib.hid (HI2.out.set Hsz.out (compL (hAt s.data.toList k) (wUpto X.data.toList X.size) (s.size : Int) true))
          refine wpAnyH_done (by kernel_rfl) ?_ _
          refine NoPanic.normal ?_
          go_wp2_with fail
          go_meet
          case rel => rw [hE.out]; exact HI3.out
        · rw [if_pos (by rfl)]
          go_simp
          refine (words_any _ _ hX).mono ?_
          rintro e w1 ⟨rfl, hb⟩
          have HI1 := Lib.hid (HI'.out.later hb (Nat.le_refl _))
          clear hb HI'
          refine hK.out _ _ trivial (fun _ => ?_)
          clear hK K
          try simp only [Act.put, List.setIfInBounds_toArray, List.set_cons_zero, List.set_cons_succ]
          refine wpAnyH_ready (rs := [0]) (by kernel_rfl) (by simp) ?_
          refine AllReadyH.cons (by simp only [List.getElem?_toArray, List.getElem?_cons_zero]; exact rfl) (fun K1 hK1 => ?_) AllReadyH.nil
          rw [if_pos (by rfl)]
          refine wp_load_row 141 _ rfl _ rfl 141 _ _ _ HI1.out.hh undA8 rfl (infoA8 HL) ?_
          refine hK1.out _ _ trivial (fun _ => ?_)
          clear hK1 K1
          try simp only [Act.put, List.setIfInBounds_toArray, List.set_cons_zero, List.set_cons_succ]
          refine wpAnyH_ready (rs := [8]) (by kernel_rfl) (by simp) ?_
          refine AllReadyH.cons (by simp only [List.getElem?_toArray, List.getElem?_cons_succ, List.getElem?_cons_zero]; exact rfl) (fun K2 hK2 => ?_) AllReadyH.nil
          rw [if_pos (by rfl)]
          go_simp
          refine (comp_any _ _ _ _ _ HI1.out.glob HL (wUpto_len _ _) H32 (wUpto_32 _ _) T0 T1).mono ?_
          rintro e w2 ⟨rfl, hb⟩
          have HI2 := Lib.hid (HI1.out.later hb (Nat.le_refl _))
          clear hb HI1
          refine hK2.out _ _ trivial (fun _ => ?_)
          clear hK2 K2
          try simp only [Act.put, List.setIfInBounds_toArray, List.set_cons_zero, List.set_cons_succ]
          refine wpAnyH_ready (rs := [9]) (by kernel_rfl) (by simp) ?_
          refine AllReadyH.cons (by simp only [List.getElem?_toArray, List.getElem?_cons_succ, List.getElem?_cons_zero]; exact rfl) (fun K3 hK3 => ?_) AllReadyH.nil
          rw [if_pos (by rfl)]
          refine wp_store_row 141 _ _ rfl _ _ rfl rfl 141 _ HI2.out.hh (infoA8 HCL) (by rw [u32v_size, u32v_size, HL, HCL]) (u32v_one _) ?_
          refine hK3.out _ _ trivial (fun _ => ?_)
          clear hK3 K3
          try simp only [Act.put]
          have HI3 := Lib.hid (HI2.out.set Hsz.out (compL (hAt s.data.toList k) (wUpto X.data.toList X.size) (s.size : Int) true))
          refine wpAnyH_done (by kernel_rfl) ?_ _
          refine NoPanic.normal ?_
          go_wp2_with fail
          go_meet
          case rel => rw [hE.out]; exact HI3.out
      case rest =>
        obtain ⟨i0, hi, hz0, hz1, hz2⟩ := info_parts infoB
        have HC := Lib.hid hcut
        have hlen := hFin_len s.data.toList
        have h32 := hFin_32 s.data.toList
        have HSB : Hid (sumB s.data.toList = outB (hFin s.data.toList) 8) := rfl
        clear hcut HI
        generalize hFin s.data.toList = H at *
        have Hl := Lib.hid hlen
        have H32 := Lib.hid h32
        clear hlen h32
        go_upto_region 9 with (at_make; refine wpList_make_own _ rfl _ _ 130 rfl w.heap.size 5 i0 (.int .u8 0) 1 undBs hi hz0 hz1 .i64 .i64 32 32 rfl rfl rfl (by rw [hz2]; decide) (by decide) HC.out.below.size ?_; intro w3 hown hgr)
        have HC3 := Lib.hid (HC.out.later ((Below.refl wc.heap.size wc).grown hgr (Nat.le_refl _) (fun k e => by cases e)) (Nat.le_refl _))
        have Hown := Lib.hid hown
        clear hown hgr HC
        go_wp2_with (refine wpList_load_row rfl 141 _ rfl _ rfl 141 _ _ _ HC3.out.hh undA8 rfl (infoA8 Hl.out) ?_)
        go_loopw [5, 41] (fun v i wr => ∃ j : Nat, j ≤ 8 ∧ i = .int .i64 j ∧ wr.ownsRow w.heap.size 5 1 v (4 * j) (bytesV (outB H j)) ∧ Below w.heap.size w wr) (fun _ i _ => 8 - (Go.RowKit.intOf i).toNat)
        case atStart => exact ⟨0, by omega, rfl, Hown.out, HC3.out.below⟩
        case round =>
          obtain ⟨j, hj, rfl, hown, hB⟩ := hrel
          clear Hown
          have HO := Lib.hid hown
          have HB := Lib.hid hB
          clear hown hB
          by_cases hlt : j < 8
          · have hix := fun w => index_A8 H Hl.out j hlt w
            have hw := H32.out j
            have HOB : Hid (outB H (j + 1) = outB H j ++ wordB (H[j]?.getD 0)) := rfl
            generalize H[j]?.getD 0 = x at *
            obtain ⟨x0, x1⟩ := hw
            go_upto_region 12 with fail
            go_wp2_with (at_builtin; refine Hid.out ?_)
            refine Lib.hid ?_
            refine wpList_append_own _ rfl _ _ 130 rfl w.heap.size 5 i0 (.int .u8 0) 1 1 undBs hi hz0 hz1 hz2 rfl (by decide) _ _ _ rfl (HO.out.alloc _) ⟨wr.heap.size, 0, none⟩ 4 4 _ rfl (by rfl) (cells_new _ _ _) (by simp [Value.oneCell']) (by unfold maxLen; omega) (by omega) (by have := HB.out.size; simp; omega) ?_
            intro v' w1 hown1 hgr1 _
            have HO1 : Hid (w1.ownsRow w.heap.size 5 1 v' (4 * (j + 1)) (bytesV (outB H (j + 1)))) := by
              rw [HOB.out, bytesV_append, wordB_V x x0 x1]
              exact hown1
            have HB1 : Hid (Below w.heap.size w w1) := Lib.hid ((HB.out.alloc HB.out.size _).grown hgr1 (by have := HB.out.size; simp; omega) (fun q e => HO.out.block_ge e))
            clear hown1 hgr1
            go_wp2_with fail
            go_roundw
            case rel => exact ⟨j + 1, by omega, by go_num, HO1.out, HB1.out⟩
            case measure => simp [Go.RowKit.intOf]; omega
          · obtain rfl : j = 8 := by omega
            clear hlt hj
            rw [← HSB.out] at HO
            go_wp2_with (refine wpList_string_own rfl 130 9 5 _ rfl undBs undB undS _ rfl w.heap.size (4 * 8) (sumB s.data.toList) HO.out ?_)
            go_ret
            exact ⟨rfl, HB.out⟩
end Go.Proofs.YtepidpegoihllaaGreatDoor

