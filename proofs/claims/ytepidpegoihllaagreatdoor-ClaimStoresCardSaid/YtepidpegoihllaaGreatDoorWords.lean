/- Texts merged: Mix Words -/
import Derived.BigQuiet
import Derived.Deep.QuietTactic
import Derived.Deep.DeepCutAuto
import Derived.Test.YtepidpegoihllaaGreatDoorLoad
import Derived.StillTailTactics
import Derived.Deep.RegionHeld3
/- The function G of BLAKE2s: digest.right and digest.mix return what the plain functions rotr and mixL say. Conditions: words of 32 bits, places below 16 that differ. -/
namespace Go.Proofs.YtepidpegoihllaaGreatDoor
open Go.RowKit
/-- rotation of a 32-bit word to the right, on integers -/
def rotr (x n : Int) : Int := bits BinOp.or IntKind.u32 (x / 2 ^ n.toNat) (x * 2 ^ (32 - n).toNat % 4294967296)
theorem rotr_b (x n : Int) : 0 ≤ rotr x n ∧ rotr x n ≤ 4294967295 := ⟨bits_lo_u32 _ _ _, bits_hi_u32 _ _ _⟩
theorem right_any (x n : Int) (w : World) (_h0 : 0 ≤ x) (_h1 : x ≤ 4294967295) (h2 : 1 ≤ n) (h3 : n ≤ 31) :
    Calls Tryz.prog 115 #[.int .u32 x, .int .i64 n] w fun e w' => e = .returned (.int .u32 (rotr x n)) ∧ ∃ k, w' = w.drewN k := by
  go_enter Tryz.func115, Tryz.ntmps115
  go_wp2
  go_quiet (fail)
  go_wp2
  go_ret
  exact ⟨rfl, _, rfl⟩
def mixF (va vb vc vd x y : Int) : Int × Int × Int × Int :=
  let r1 := rotr (bits BinOp.xor IntKind.u32 vd ((va + (vb + x)) % 4294967296)) 16
  let r2 := rotr (bits BinOp.xor IntKind.u32 vb ((vc + r1) % 4294967296)) 12
  let r3 := rotr (bits BinOp.xor IntKind.u32 r1 ((va + (vb + x) + (r2 + y)) % 4294967296)) 8
  let r4 := rotr (bits BinOp.xor IntKind.u32 r2 ((vc + r1 + r3) % 4294967296)) 7
  ((va + (vb + x) + (r2 + y)) % 4294967296, r4, (vc + r1 + r3) % 4294967296, r3)
def mixL (vs : List Int) (a b c d : Nat) (x y : Int) : List Int :=
  let r := mixF (vs[a]?.getD 0) (vs[b]?.getD 0) (vs[c]?.getD 0) (vs[d]?.getD 0) x y
  (((vs.set a r.1).set b r.2.1).set c r.2.2.1).set d r.2.2.2
theorem undA16 : Tryz.prog.underlying 143 = some (.array 16 140) := by kernel_rfl
theorem infoA16 {vs : List Int} (h : vs.length = 16) : (Tryz.prog.info? 143).map (·.size) = some (u32v vs).size := by
  rw [u32v_size, h]
  kernel_rfl
set_option maxHeartbeats 400000 in
theorem mix_any (vs : List Int) (a b c d x y : Int) (w : World) (hl : vs.length = 16) (hb : W32 vs)
    (ha0 : 0 ≤ a) (ha : a < 16) (hb0 : 0 ≤ b) (hb1 : b < 16) (hc0 : 0 ≤ c) (hc : c < 16) (hd0 : 0 ≤ d) (hd : d < 16)
    (hab : ¬ a.toNat = b.toNat) (hac : ¬ a.toNat = c.toNat) (had : ¬ a.toNat = d.toNat) (hbc : ¬ b.toNat = c.toNat) (hbd : ¬ b.toNat = d.toNat) (hcd : ¬ c.toNat = d.toNat)
    (_hx0 : 0 ≤ x) (_hx1 : x ≤ 4294967295) (_hy0 : 0 ≤ y) (_hy1 : y ≤ 4294967295)  :
    Calls Tryz.prog 104 #[.agg (u32v vs), .int .i64 a, .int .i64 b, .int .i64 c, .int .i64 d, .int .u32 x, .int .u32 y] w fun e w' =>
      e = .returned (.agg (u32v (mixL vs a.toNat b.toNat c.toNat d.toNat x y))) ∧ Below w.heap.size w w' := by
  go_enter Tryz.func104, Tryz.ntmps104
  go_wp2
  generalize hZ : (#[Value.int IntKind.u32 0, _, _, _, _, _, _, _, _, _, _, _, _, _, _, _] : Array Value) = Z
  have HZ : Hid (Z.size = 16) := by rw [← hZ]; rfl
  clear hZ
  generalize hW : (w.alloc (Obj.cells (u32v vs) 143)).alloc _ = W
  have hz : W.heap.size = w.heap.size + 2 := by rw [← hW]; simp
  have hB : Below w.heap.size w W := by rw [← hW]; exact ((Below.refl _ _).alloc (Nat.le_refl _) _).alloc (by simp) _
  have hH : W.heap[w.heap.size]? = some (.cells (u32v vs) 143 (0, 0)) := by rw [← hW]; exact heap_alloc2_old _ _ _
  have hH2 : W.heap[w.heap.size + 1]? = some (.cells Z 143 (0, 0)) := by rw [← hW]; exact heap_alloc2_new _ _ _
  have hcell : ∀ i : Nat, i < 16 → W.cell? ⟨w.heap.size, i, none⟩ = some (.int .u32 (vs[i]?.getD 0)) := fun i hi => by
    rw [cell_of_row _ _ _ _ _ _ hH]; exact u32v_get _ _ (by omega)
  have hfr : ∀ i : Nat, W.frozen? ⟨w.heap.size, i, none⟩ = false := fun i => frozen_of_row _ _ _ _ _ hH
  clear hW
  have HH := Lib.hid hH
  have HH2 := Lib.hid hH2
  have Hl := Lib.hid hl
  have Hz := Lib.hid hz
  clear hH hH2 hl hz
  have hba := hb a.toNat
  have hbb := hb b.toNat
  have hbc' := hb c.toNat
  have hbd' := hb d.toNat
  have hca := hcell a.toNat (by omega)
  have hcb := hcell b.toNat (by omega)
  have hcc := hcell c.toNat (by omega)
  have hcd' := hcell d.toNat (by omega)
  have hfa := hfr a.toNat
  have hfb := hfr b.toNat
  have hfc := hfr c.toNat
  have hfd := hfr d.toNat
  clear hcell hb hfr
  have hM : Hid (mixL vs a.toNat b.toNat c.toNat d.toNat x y = (((vs.set a.toNat (mixF (vs[a.toNat]?.getD 0) (vs[b.toNat]?.getD 0) (vs[c.toNat]?.getD 0) (vs[d.toNat]?.getD 0) x y).1).set b.toNat (mixF (vs[a.toNat]?.getD 0) (vs[b.toNat]?.getD 0) (vs[c.toNat]?.getD 0) (vs[d.toNat]?.getD 0) x y).2.1).set c.toNat (mixF (vs[a.toNat]?.getD 0) (vs[b.toNat]?.getD 0) (vs[c.toNat]?.getD 0) (vs[d.toNat]?.getD 0) x y).2.2.1).set d.toNat (mixF (vs[a.toNat]?.getD 0) (vs[b.toNat]?.getD 0) (vs[c.toNat]?.getD 0) (vs[d.toNat]?.getD 0) x y).2.2.2) := rfl
  generalize vs[a.toNat]?.getD 0 = va at *
  generalize vs[b.toNat]?.getD 0 = vb at *
  generalize vs[c.toNat]?.getD 0 = vc at *
  generalize vs[d.toNat]?.getD 0 = vd at *
  obtain ⟨p1, p2⟩ := hba
  obtain ⟨p3, p4⟩ := hbb
  obtain ⟨p5, p6⟩ := hbc'
  obtain ⟨p7, p8⟩ := hbd'
  go_quiet (fail)
  go_wp2_with fail
  refine (right_any _ _ _ (bits_lo_u32 _ _ _) (bits_hi_u32 _ _ _) (by omega) (by omega)).mono ?_
  rintro e w' ⟨rfl, k1, rfl⟩
  have q1 := rotr_b (bits BinOp.xor IntKind.u32 vd ((va + (vb + x)) % 4294967296)) 16
  generalize e1 : rotr (bits BinOp.xor IntKind.u32 vd ((va + (vb + x)) % 4294967296)) 16 = r1 at *
  obtain ⟨q1, q2⟩ := q1
  have E1 := Lib.hid e1
  clear e1
  go_wp2_with fail
  refine (right_any _ _ _ (bits_lo_u32 _ _ _) (bits_hi_u32 _ _ _) (by omega) (by omega)).mono ?_
  rintro e w' ⟨rfl, k2, rfl⟩
  have q2 := rotr_b (bits BinOp.xor IntKind.u32 vb ((vc + r1) % 4294967296)) 12
  generalize e2 : rotr (bits BinOp.xor IntKind.u32 vb ((vc + r1) % 4294967296)) 12 = r2 at *
  obtain ⟨q2, q2'⟩ := q2
  have E2 := Lib.hid e2
  clear e2
  go_wp2_with fail
  refine (right_any _ _ _ (bits_lo_u32 _ _ _) (bits_hi_u32 _ _ _) (by omega) (by omega)).mono ?_
  rintro e w' ⟨rfl, k3, rfl⟩
  have q3 := rotr_b (bits BinOp.xor IntKind.u32 r1 ((va + (vb + x) + (r2 + y)) % 4294967296)) 8
  generalize e3 : rotr (bits BinOp.xor IntKind.u32 r1 ((va + (vb + x) + (r2 + y)) % 4294967296)) 8 = r3 at *
  obtain ⟨q3, q3'⟩ := q3
  have E3 := Lib.hid e3
  clear e3
  go_wp2_with fail
  refine (right_any _ _ _ (bits_lo_u32 _ _ _) (bits_hi_u32 _ _ _) (by omega) (by omega)).mono ?_
  rintro e w' ⟨rfl, k4, rfl⟩
  have q4 := rotr_b (bits BinOp.xor IntKind.u32 r2 ((vc + r1 + r3) % 4294967296)) 7
  generalize e4 : rotr (bits BinOp.xor IntKind.u32 r2 ((vc + r1 + r3) % 4294967296)) 7 = r4 at *
  obtain ⟨q4, q4'⟩ := q4
  have E4 := Lib.hid e4
  clear e4
  go_upto_region 11 with (fail)
  generalize hW5 : ((((W.drewN (nq + k1 + k2 + k3 + k4)).setCell _ _).setCell _ _).setCell _ _).setCell _ _ = W5
  have hz := Hz.out
  have hH : (W.drewN (nq + k1 + k2 + k3 + k4)).heap[w.heap.size]? = some (.cells (u32v vs) 143 (0, 0)) := HH.out
  have hH5 : W5.heap[w.heap.size]? = some (.cells (u32v (mixL vs a.toNat b.toNat c.toNat d.toNat x y)) 143 (0, 0)) := by
    rw [← hW5, heap_setCell_same _ _ _ _ _ _ (heap_setCell_same _ _ _ _ _ _ (heap_setCell_same _ _ _ _ _ _ (heap_setCell_same _ _ _ _ _ _ hH)))]
    rw [hM.out]
    simp only [u32v_set, mixF, E1.out, E2.out, E3.out, E4.out]
  have hO5 : W5.heap[w.heap.size + 1]? = some (.cells Z 143 (0, 0)) := by
    rw [← hW5]
    rw [heap_setCell_other _ _ _ _ (Nat.succ_ne_self _), heap_setCell_other _ _ _ _ (Nat.succ_ne_self _), heap_setCell_other _ _ _ _ (Nat.succ_ne_self _), heap_setCell_other _ _ _ _ (Nat.succ_ne_self _)]
    exact HH2.out
  have hB5 : Below w.heap.size w W5 := by
    rw [← hW5]
    have h0 : Below w.heap.size w (W.drewN (nq + k1 + k2 + k3 + k4)) := hB.trans ⟨rfl, rfl, rfl, Nat.le_refl _, fun _ _ => rfl⟩
    exact (((h0.setCell (Nat.le_refl _) _).setCell (Nat.le_refl _) _).setCell (Nat.le_refl _) _).setCell (Nat.le_refl _) _
  have hsz : (u32v (mixL vs a.toNat b.toNat c.toNat d.toNat x y)).size = 16 := by
    rw [u32v_size, hM.out]; simp [Hl.out]
  clear hW5 hH hz
  have HB5 := Lib.hid hB5
  clear hB5
  refine wp_region_lit ?_
  refine wpList_load_row rfl 143 _ rfl _ rfl 143 _ _ _ hH5 undA16 rfl (by rw [hsz]; kernel_rfl) ?_
  refine wpList_store_row rfl 143 _ _ rfl _ _ rfl rfl 143 _ hO5 (by rw [hsz]; kernel_rfl) (by rw [hsz]; exact HZ.out) (u32v_one _) ?_
  go_wp2
  refine bodyPost_ret (v := .agg (u32v (mixL vs a.toNat b.toNat c.toNat d.toNat x y))) ?_ rfl ⟨rfl, ?_⟩
  · exact results_cell_row rfl _ _ _ 143 _ (0, 0) _ rfl (setRow_heap _ _ _ _ _ _ hO5) undA16 rfl (by rw [hsz]; kernel_rfl)
  · exact HB5.out.trans ⟨rfl, rfl, rfl, by simp, fun k hk => setRow_other _ _ _ _ (by omega)⟩
end Go.Proofs.YtepidpegoihllaaGreatDoor
/- digest.words returns the sixteen words of a string of at most 64 bytes. -/
namespace Go.Proofs.YtepidpegoihllaaGreatDoor
open Go.RowKit
/-- the words after the first k bytes of the string -/
def wUpto (s : List UInt8) : Nat → List Int
  | 0 => List.replicate 16 0
  | k + 1 => (wUpto s k).set (k / 4) (bits BinOp.or IntKind.u32 ((wUpto s k)[k / 4]?.getD 0) ((((s[k]?.getD 0).toNat : Int) * 2 ^ (8 * (k % 4))) % 4294967296))
theorem wUpto_len (s : List UInt8) (k : Nat) : (wUpto s k).length = 16 := by
  induction k with
  | zero => rfl
  | succ k ih => simp [wUpto, ih]
theorem wUpto_32 (s : List UInt8) (k : Nat) : W32 (wUpto s k) := by
  induction k with
  | zero => exact W32.replicate 16
  | succ k ih => exact ih.set _ (bits_lo_u32 _ _ _) (bits_hi_u32 _ _ _)
set_option maxRecDepth 100000 in
set_option maxHeartbeats 400000 in
theorem words_any (s : ByteArray) (w : World) (hs : s.size ≤ 64) :
    Calls Tryz.prog 88 #[.string s] w fun e w' => e = .returned (.agg (u32v (wUpto s.data.toList s.size))) ∧ Below w.heap.size w w' := by
  go_enter Tryz.func88, Tryz.ntmps88
  go_wp2
  generalize hZ : (#[Value.int IntKind.u32 0, _, _, _, _, _, _, _, _, _, _, _, _, _, _, _] : Array Value) = Z
  have hZ' : Z = u32v (wUpto s.data.toList 0) := by rw [← hZ]; rfl
  rw [hZ']
  go_loopw [7] (fun i wr => ∃ k : Nat, k ≤ s.size ∧ i = .int .i64 k ∧ wr.heap[w.heap.size + 1]? = some (.cells (u32v (wUpto s.data.toList k)) 143 (0, 0)) ∧
    wr.heap[w.heap.size]? = some (.cells (u32v (wUpto s.data.toList 0)) 143 (0, 0)) ∧ Below w.heap.size w wr) (fun i _ => s.size - (Go.RowKit.intOf i).toNat)
  case atStart => exact ⟨0, by omega, rfl, heap_alloc2_new _ _ _, heap_alloc2_old _ _ _, ((Below.refl _ _).alloc (Nat.le_refl _) _).alloc (by simp) _⟩
  case round =>
    obtain ⟨k, hk, rfl, hH, hO, hB⟩ := hrel
    have hlen := wUpto_len s.data.toList k
    by_cases hlt : k < s.size
    · have hc : wr.cell? ⟨w.heap.size + 1, k / 4, none⟩ = some (.int .u32 ((wUpto s.data.toList k)[k / 4]?.getD 0)) := by
        rw [cell_of_row _ _ _ _ _ _ hH]; exact u32v_get _ _ (by omega)
      have hf : wr.frozen? ⟨w.heap.size + 1, k / 4, none⟩ = false := frozen_of_row _ _ _ _ _ hH
      have HH := Lib.hid hH
      have HO := Lib.hid hO
      have HB := Lib.hid hB
      have Hl := Lib.hid hlen
      clear hH hO hB hlen
      go_wp2
      have g1 : (0 : Int) ≤ (k : Int) / 4 := by omega
      have g2 : (k : Int) / 4 < 16 := by omega
      have g3 : ((k : Int) / 4).toNat = k / 4 := by omega
      have g4 : (0 : Int) ≤ (k : Int) % 4 := by omega
      have g5 : (k : Int) % 4 < 4 := by omega
      have h1 : IntKind.i64.wrap ((k : Int) / 4) = (k : Int) / 4 := IntWalk.i64_in _ (by omega)
      have h2 : (k : Int).tmod 4 = (k : Int) % 4 := Int.tmod_eq_emod_of_nonneg (by omega)
      have h4 : ∀ x : UInt8, IntKind.u32.wrap (x.toNat : Int) = x.toNat := fun x => IntWalk.u32_in _ (by have := x.toNat_lt; omega)
      have h5 : (0 : Int) ≤ 8 * ((k : Int) % 4) := by omega
      have h6 : (8 : Int) * ((k : Int) % 4) < 32 := by omega
      have h7 : (8 * ((k : Int) % 4)).toNat = 8 * (k % 4) := by omega
      have h3 : IntKind.i64.wrap (8 * ((k : Int) % 4)) = 8 * ((k : Int) % 4) := IntWalk.i64_in _ (by omega)
      go_still_tail 14, (by kernel_rfl)
      change wpList _ _ _ _ _ wr.drew
      have hc2 : wr.drew.cell? ⟨w.heap.size + 1, k / 4, none⟩ = some (.int .u32 ((wUpto s.data.toList k)[k / 4]?.getD 0)) := hc
      have hf2 : wr.drew.frozen? ⟨w.heap.size + 1, k / 4, none⟩ = false := hf
      have HH2 : Hid (wr.drew.heap[w.heap.size + 1]? = some (.cells (u32v (wUpto s.data.toList k)) 143 (0, 0))) := Lib.hid HH.out
      have HO2 : Hid (wr.drew.heap[w.heap.size]? = some (.cells (u32v (wUpto s.data.toList 0)) 143 (0, 0))) := Lib.hid HO.out
      have HB2 : Hid (Below w.heap.size w wr.drew) := Lib.hid HB.out.drew
      generalize wr.drew = w2 at *
      clear hc hf HH HO HB g1 g2 g3 g4 g5 h1 h2 h3 h4 h5 h6 h7
      go_wp2
      go_roundw
      case rel =>
        refine ⟨k + 1, by omega, by go_num, ?_, ?_, HB2.out.setCell (by simp) _⟩
        · rw [heap_setCell_same _ _ _ _ _ _ HH2.out, u32v_set]
          simp only [wUpto]
          congr 6
          simp [hlt]
          rfl
        · rw [heap_setCell_other _ _ _ _ (Nat.ne_of_lt (Nat.lt_succ_self _))]
          exact HO2.out
      case measure => simp [Go.RowKit.intOf]; omega
    · obtain rfl : k = s.size := by omega
      have hi := infoA16 hlen
      have hi0 := infoA16 (wUpto_len s.data.toList 0)
      have hsz : (u32v (wUpto s.data.toList 0)).size = (u32v (wUpto s.data.toList s.size)).size := by rw [u32v_size, u32v_size, hlen, wUpto_len]
      have HH := Lib.hid hH
      have HO := Lib.hid hO
      have HB := Lib.hid hB
      have Hl := Lib.hid hlen
      have Hi := Lib.hid hi
      have Hs := Lib.hid hsz
      clear hH hO hB hlen hi hi0 hsz hZ hZ'
      go_wp2_with (first | (refine wpList_load_row rfl 143 _ rfl _ rfl 143 _ _ _ HH.out undA16 rfl Hi.out ?_) | (refine wpList_store_row rfl 143 _ _ rfl _ _ rfl rfl 143 _ HO.out Hi.out Hs.out (u32v_one _) ?_))
      refine bodyPost_ret (v := .agg (u32v (wUpto s.data.toList s.size))) ?_ rfl ⟨rfl, ?_⟩
      · exact results_cell_row rfl _ _ _ 143 _ (0, 0) _ rfl (setRow_heap _ _ _ _ _ _ HO.out) undA16 rfl Hi.out
      · exact below_setRow HB.out (Nat.le_refl _) _
end Go.Proofs.YtepidpegoihllaaGreatDoor
