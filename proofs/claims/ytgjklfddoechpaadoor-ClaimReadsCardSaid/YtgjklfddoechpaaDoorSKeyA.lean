/- sign.Key. -/
import Derived.Test.YtgjklfddoechpaaDoorSRight
import Derived.Outline
namespace Go.Proofs.YtgjklfddoechpaaDoor
open Go.RowKit
def keyB : List UInt8 := [107, 101, 121]
def keyL (s : List UInt8) : List UInt8 := textL keyB ++ textL s
/-- the secret of a seed -/
def keyN (s : List UInt8) : Nat := 1 + shortL (keyL s) % (gQ - 1)
theorem keyN_bd (s : List UInt8) : 1 ≤ keyN s ∧ keyN s < 1152921504606845789 := by
  unfold keyN
  have h : shortL (keyL s) % (gQ - 1) < gQ - 1 := Nat.mod_lt _ (by decide)
  have e : gQ - 1 = 1152921504606845788 := rfl
  generalize shortL (keyL s) % (gQ - 1) = q at *
  omega
set_option maxRecDepth 100000 in
set_option maxHeartbeats 4000000 in
theorem key_any (c : ByteArray) (w : World) (hc : c.size ≤ 2000) (hg : Glob w) (hml : MLen w) :
    Calls Tryd.prog 16 #[.string c] w fun e w' => e = .returned (.agg #[.int .i64 (keyN c.data.toList : Nat), .int .i64 (pubN (keyN c.data.toList) : Nat)]) ∧ Below w.heap.size w w' := by
  have hbA := (Below.refl w.heap.size w).alloc (Nat.le_refl _) (.cells #[.int .i64 0, .int .i64 0] 39)
  have HG := Lib.hid (hg.below hbA hg.size)
  have HM := Lib.hid (hml.up hbA)
  have HK0 := Lib.hid (heap_alloc_new w (.cells #[.int .i64 0, .int .i64 0] 39))
  have HBA := Lib.hid hbA
  obtain ⟨y, hy⟩ : ∃ y, y = keyN c.data.toList := ⟨_, rfl⟩
  have hyb := keyN_bd c.data.toList
  rw [← hy] at hyb ⊢
  have HY := Lib.hid hy
  clear hg hml hbA hy
  go_enter Tryd.func16, Tryd.ntmps16
  go_upto_region 1 with fail
  generalize w.alloc (.cells #[.int .i64 0, .int .i64 0] 39) = w0 at *
  have hkl := blk_lt HK0.out
  go_wp2_with fail
  refine (text_any ⟨#[107, 101, 121]⟩ _ (by decide) HM.out).mono ?_
  rintro e w1 ⟨rfl, hb⟩
  have HB1 := Lib.hid hb
  obtain ⟨t1, ht1⟩ : ∃ t1 : ByteArray, t1 = ⟨(textL (ByteArray.mk #[107, 101, 121]).data.toList).toArray⟩ := ⟨_, rfl⟩
  rw [← ht1]
  have HT1 := Lib.hid ht1
  clear hb ht1
  go_wp2_with fail
  refine (text_any c _ (by omega) (HM.out.up HB1.out)).mono ?_
  rintro e w2 ⟨rfl, hb⟩
  have HB2 := Lib.hid (HB1.out.trans (hb.mono HB1.out.size))
  obtain ⟨t2, ht2⟩ : ∃ t2 : ByteArray, t2 = ⟨(textL c.data.toList).toArray⟩ := ⟨_, rfl⟩
  rw [← ht2]
  have HT2 := Lib.hid ht2
  clear hb ht2
  have HB6 := Lib.hid (HB2.out.alloc HB2.out.size (.cells #[.string t1, .string t2] 9))
  have HC6 := Lib.hid (heap_alloc_new w2 (.cells #[.string t1, .string t2] 9))
  have HF : Hid (([t1, t2].map (·.data.toList)).flatten = keyL c.data.toList) := Lib.hid (by
    rw [HT1.out, HT2.out]
    simp [keyL, keyB])
  have HLn : Hid ((([t1, t2].map (·.data.toList)).flatten).length ≤ 1000000) := Lib.hid (by
    rw [HF.out]
    unfold keyL
    have a1 := textL_len keyB
    have a4 := textL_len c.data.toList
    have b4 : c.data.toList.length ≤ 2000 := hc
    have b1 : keyB.length = 3 := rfl
    simp only [List.length_append]
    omega)
  have hcl : Hid (∀ (j : Nat) x, [t1, t2][j]? = some x → (w2.alloc (.cells #[.string t1, .string t2] 9)).cell? ⟨w2.heap.size, 0 + j, none⟩ = some (.string x)) := Lib.hid (fun j x hj => by
    rw [Nat.zero_add]
    have h := cell_of_row _ _ j _ _ _ HC6.out
    rw [← Array.getElem?_toList] at h
    have h2 : ([t1, t2].map Value.string)[j]? = some (.string x) := by rw [List.getElem?_map, hj]; rfl
    exact h.trans h2)
  obtain ⟨z, hz⟩ : ∃ z, z = shortL (keyL c.data.toList) := ⟨_, rfl⟩
  have HZ := Lib.hid hz
  have HE : Hid (y = 1 + z % (gQ - 1)) := Lib.hid (by rw [HY.out]; unfold keyN; rw [hz])
  clear hz
  go_wp2_with fail
  refine (hash_any w2.heap.size [t1, t2] _ (HG.out.below HB6.out HG.out.size) hcl.out (blk_lt HC6.out) (show 2 ≤ 100 by decide) HLn.out).mono ?_
  rintro e w7 ⟨rfl, hb⟩
  rw [HF.out, ← HZ.out]
  have HB7 := Lib.hid (HB6.out.trans (hb.mono HB6.out.size))
  clear hb
  have hzb : z < 1152921504606846976 := by rw [HZ.out]; exact shortL_lt _
  obtain ⟨v, hv⟩ : ∃ v, v = z % (gQ - 1) := ⟨_, rfl⟩
  have FV : (z : Int) % 1152921504606845788 = (v : Int) := by rw [hv]; exact (Int.natCast_emod z (gQ - 1)).symm
  have hyv : y = 1 + v := by rw [hv]; exact HE.out
  have F1 : 1 + (v : Int) = (y : Int) := by omega
  have hvb : v < 1152921504606845788 := by omega
  have hyb1 := hyb.1
  have hyb2 := hyb.2
  clear hv hyv hyb
  go_wp2_with fail
  refine (of_any y _ hyb1 hyb2).mono ?_
  rintro e w8 ⟨rfl, hb⟩
  have HB8 := Lib.hid (HB7.out.trans (hb.mono HB7.out.size))
  have HK8 := Lib.hid (blk_below HK0.out HB8.out hkl)
  have HBW := Lib.hid (HBA.out.trans (HB8.out.mono HBA.out.size))
  clear hb
  obtain ⟨u, hu⟩ : ∃ u, u = pubN y := ⟨_, rfl⟩
  rw [← hu]
  have HU := Lib.hid hu
  clear hu
  obtain ⟨k0, k1⟩ : w8.cell? ⟨w.heap.size, 0, none⟩ = some (.int .i64 0) ∧ w8.cell? ⟨w.heap.size, 1, none⟩ = some (.int .i64 0) := ⟨(cell_of_row _ _ _ _ _ _ HK8.out).trans rfl, (cell_of_row _ _ _ _ _ _ HK8.out).trans rfl⟩
  have f0 : ∀ j, w8.frozen? ⟨w.heap.size, j, none⟩ = false := fun j => frozen_of_row _ _ _ _ _ HK8.out
  go_wp2_with fail
  refine bodyPost_ret (v := .agg #[.int .i64 y, .int .i64 u]) (results_cell_row rfl _ _ _ 39 _ (0, 0) _ rfl (two_set HK8.out) undKey rfl infoKey) rfl ⟨by rw [← HU.out], ?_⟩
  exact (HBW.out.setCell (Nat.le_refl _) _).setCell (Nat.le_refl _) _
end Go.Proofs.YtgjklfddoechpaaDoor
