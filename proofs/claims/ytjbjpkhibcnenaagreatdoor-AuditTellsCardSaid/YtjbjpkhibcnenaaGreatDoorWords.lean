/- digest.words returns the sixteen words of a string of at most 64 bytes. -/
import Derived.StillTailTactics
import Derived.Deep.RegionHeld3
import Derived.Test.YtjbjpkhibcnenaaGreatDoorMix
namespace Go.Proofs.YtjbjpkhibcnenaaGreatDoor
set_option maxRecDepth 100000
set_option maxHeartbeats 400000
open Go.RowKit
/-- the words after the first k bytes of the string -/
def wUpto (s : List UInt8) : Nat → List Int
 | 0 => List.replicate 16 0
 | k + 1 => (wUpto s k).set (k / 4) (bits BinOp.or IntKind.u32 ((wUpto s k)[k / 4]?.getD 0) ((((s[k]?.getD 0).toNat : Int) * 2 ^ (8 * (k % 4))) % 4294967296))
theorem wUpto_len (s : List UInt8) (k : Nat) : (wUpto s k).length = 16 := by
 induction k with
 | zero => rfl
 | succ k ih => simp [wUpto, ih]
theorem wUpto_32 (s : List UInt8) (k : Nat) : W32 (wUpto s k) := by
 induction k with
 | zero => exact W32.replicate 16
 | succ k ih => exact ih.set _ (bits_lo_u32 _ _ _) (bits_hi_u32 _ _ _)
theorem words_any (s : ByteArray) (w : World) (hs : s.size ≤ 64) :
 Calls Tryz.prog 171 #[.string s] w fun e w' => e = .returned (.agg (u32v (wUpto s.data.toList s.size))) ∧ Below w.heap.size w w' := by
 go_enter Tryz.func171, Tryz.ntmps171
 go_wp2
 generalize hZ : (#[Value.int IntKind.u32 0, _, _, _, _, _, _, _, _, _, _, _, _, _, _, _] : Array Value) = Z
 have hZ' : Z = u32v (wUpto s.data.toList 0) := by rw [← hZ]; rfl
 rw [hZ']
 go_loopw [7] (fun i wr => ∃ k : Nat, k ≤ s.size ∧ i = .int .i64 k ∧ wr.heap[w.heap.size + 1]? = some (.cells (u32v (wUpto s.data.toList k)) 200 (0, 0)) ∧
  wr.heap[w.heap.size]? = some (.cells (u32v (wUpto s.data.toList 0)) 200 (0, 0)) ∧ Below w.heap.size w wr) (fun i _ => s.size - (intOf i).toNat)
 case atStart => exact ⟨0, by omega, rfl, heap_alloc2_new _ _ _, heap_alloc2_old _ _ _, ((Below.refl _ _).alloc (Nat.le_refl _) _).alloc (by simp) _⟩
 case round =>
  obtain ⟨k, hk, rfl, hH, hO, hB⟩ := hrel
  have hlen := wUpto_len s.data.toList k
  by_cases hlt : k < s.size
  ·
   have hc : wr.cell? ⟨w.heap.size + 1, k / 4, none⟩ = some (.int .u32 ((wUpto s.data.toList k)[k / 4]?.getD 0)) := by
    rw [cell_of_row _ _ _ _ _ _ hH]; exact u32v_get _ _ (by omega)
   have hf : wr.frozen? ⟨w.heap.size + 1, k / 4, none⟩ = false := frozen_of_row _ _ _ _ _ hH
   have HH := Lib.hid hH
   have HO := Lib.hid hO
   have HB := Lib.hid hB
   have Hl := Lib.hid hlen
   clear hH hO hB hlen
   go_wp2
   have g1 : (0 : Int) ≤ (k : Int) / 4 := by omega
   have g2 : (k : Int) / 4 < 16 := by omega
   have g3 : ((k : Int) / 4).toNat = k / 4 := by omega
   have g4 : (0 : Int) ≤ (k : Int) % 4 := by omega
   have g5 : (k : Int) % 4 < 4 := by omega
   have h1 : IntKind.i64.wrap ((k : Int) / 4) = (k : Int) / 4 := IntWalk.i64_in _ (by omega)
   have h2 : (k : Int).tmod 4 = (k : Int) % 4 := Int.tmod_eq_emod_of_nonneg (by omega)
   have h4 : ∀ x : UInt8, IntKind.u32.wrap (x.toNat : Int) = x.toNat := fun x => IntWalk.u32_in _ (by have := x.toNat_lt; omega)
   have h5 : (0 : Int) ≤ 8 * ((k : Int) % 4) := by omega
   have h6 : (8 : Int) * ((k : Int) % 4) < 32 := by omega
   have h7 : (8 * ((k : Int) % 4)).toNat = 8 * (k % 4) := by omega
   have h3 : IntKind.i64.wrap (8 * ((k : Int) % 4)) = 8 * ((k : Int) % 4) := IntWalk.i64_in _ (by omega)
   go_still_tail 14, (by kernel_rfl)
   change wpList _ _ _ _ _ wr.drew
   have hc2 : wr.drew.cell? ⟨w.heap.size + 1, k / 4, none⟩ = some (.int .u32 ((wUpto s.data.toList k)[k / 4]?.getD 0)) := hc
   have hf2 : wr.drew.frozen? ⟨w.heap.size + 1, k / 4, none⟩ = false := hf
   have HH2 : Hid (wr.drew.heap[w.heap.size + 1]? = some (.cells (u32v (wUpto s.data.toList k)) 200 (0, 0))) := Lib.hid HH.out
   have HO2 : Hid (wr.drew.heap[w.heap.size]? = some (.cells (u32v (wUpto s.data.toList 0)) 200 (0, 0))) := Lib.hid HO.out
   have HB2 : Hid (Below w.heap.size w wr.drew) := Lib.hid HB.out.drew
   generalize wr.drew = w2 at *
   clear hc hf HH HO HB g1 g2 g3 g4 g5 h1 h2 h3 h4 h5 h6 h7
   go_wp2
   go_roundw
   case rel =>
    refine ⟨k + 1, by omega, by go_num, ?_, ?_, HB2.out.setCell (by simp) _⟩
    ·
     rw [heap_setCell_same _ _ _ _ _ _ HH2.out, u32v_set]
     simp only [wUpto]
     congr 6
     simp [hlt]
     rfl
    ·
     rw [heap_setCell_other _ _ _ _ (Nat.ne_of_lt (Nat.lt_succ_self _))]
     exact HO2.out
   case measure => simp [intOf]; omega
  ·
   obtain rfl : k = s.size := by omega
   have hi := infoA16 hlen
   have hi0 := infoA16 (wUpto_len s.data.toList 0)
   have hsz : (u32v (wUpto s.data.toList 0)).size = (u32v (wUpto s.data.toList s.size)).size := by rw [u32v_size, u32v_size, hlen, wUpto_len]
   have HH := Lib.hid hH
   have HO := Lib.hid hO
   have HB := Lib.hid hB
   have Hl := Lib.hid hlen
   have Hi := Lib.hid hi
   have Hs := Lib.hid hsz
   clear hH hO hB hlen hi hi0 hsz hZ hZ'
   go_wp2_with (first | (refine wpList_load_row rfl 200 _ rfl _ rfl 200 _ _ _ HH.out undA16 rfl Hi.out ?_) | (refine wpList_store_row rfl 200 _ _ rfl _ _ rfl rfl 200 _ HO.out Hi.out Hs.out (u32v_one _) ?_))
   refine bodyPost_ret (v := .agg (u32v (wUpto s.data.toList s.size))) ?_ rfl ⟨rfl, ?_⟩
   · exact results_cell_row rfl _ _ _ 200 _ (0, 0) _ rfl (setRow_heap _ _ _ _ _ _ HO.out) undA16 rfl Hi.out
   · exact below_setRow HB.out (Nat.le_refl _) _
end Go.Proofs.YtjbjpkhibcnenaaGreatDoor

