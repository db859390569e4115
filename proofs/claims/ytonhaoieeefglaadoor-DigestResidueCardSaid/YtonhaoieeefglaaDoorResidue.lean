/- bournelaw03.DigestResidue returns true for all strings. -/
import Derived.Test.YtonhaoieeefglaaDoorSmall
import Derived.Test.YtonhaoieeefglaaDoorCrcLaw
namespace Go.Proofs.YtonhaoieeefglaaDoor
open Go.RowKit
/-- a slice literal of bytes, turned into a string -/
theorem conv_new (w : World) (bs : List UInt8) : (convert 30 9 (.slice (some ⟨w.heap.size, 0, none⟩) bs.length bs.length)).run Tryd.prog (w.alloc (.cells (bytesV bs).toArray 5)) = .ok (.string ⟨bs.toArray⟩) (w.alloc (.cells (bytesV bs).toArray 5)) :=
  run_convert_bytes_back _ _ _ _ _ _ bs undBs undB undS fun j hj => by
    rw [Addr.add_mid, Nat.zero_add, cell_of_row _ _ _ _ _ _ (heap_alloc_new w _)]
    simp [bytesV, hj]
set_option maxRecDepth 100000 in
set_option maxHeartbeats 1000000 in
theorem residue_core (s : ByteArray) (w : World) (hg : Glob w) (hs : s.size ≤ maxLen) :
    Calls Tryd.prog 5 #[.string s] w fun e w' => e = .returned (.bool true) ∧ Below w.heap.size w w' := by
  unfold maxLen at hs
  have Hg := Lib.hid hg
  clear hg
  by_cases g1 : 2000 < s.size
  · go_enter Tryd.func5, Tryd.ntmps5
    go_wp2_with fail
    refine (small_any _ Hg.out).mono ?_
    rintro e w1 ⟨rfl, hb⟩
    have HB := Lib.hid hb
    clear hb
    go_wp2_with fail
    go_ret
    exact ⟨rfl, HB.out⟩
  · go_enter Tryd.func5, Tryd.ntmps5
    go_wp2_with fail
    refine (small_any _ Hg.out).mono ?_
    rintro e w1 ⟨rfl, hb⟩
    have HB := Lib.hid hb
    clear hb
    go_wp2_with fail
    refine (crc_any _ _ (by unfold maxLen; omega)).mono ?_
    rintro e w2 ⟨rfl, rfl⟩
    have hn := crcL_lt s.data.toList
    have HR := Lib.hid (residue s.data.toList)
    generalize crcL s.data.toList = n at *
    go_upto_region 7 with (fail)
    have hc := conv_new w1 [UInt8.ofNat (n % 256), UInt8.ofNat (n / 256)]
    have e1 : (((UInt8.ofNat (n % 256)).toNat : Nat) : Int) = (n : Int) % 256 := by rw [UInt8.toNat_ofNat']; omega
    have e2 : (((UInt8.ofNat (n / 256)).toNat : Nat) : Int) = (n : Int) / 256 := by rw [UInt8.toNat_ofNat']; omega
    simp only [bytesV, List.map_cons, List.map_nil, e1, e2, List.length_cons, List.length_nil, Nat.zero_add, Nat.reduceAdd] at hc
    have hX : (s ++ (⟨[UInt8.ofNat (n % 256), UInt8.ofNat (n / 256)].toArray⟩ : ByteArray)).size ≤ 2002 := by
      rw [ByteArray.size_append]
      show s.size + 2 ≤ 2002
      omega
    have HX := Lib.hid hX
    have hsz : (⟨[UInt8.ofNat (n % 256), UInt8.ofNat (n / 256)].toArray⟩ : ByteArray).size = 2 := rfl
    have HD : Hid (crcL (s ++ (⟨[UInt8.ofNat (n % 256), UInt8.ofNat (n / 256)].toArray⟩ : ByteArray)).data.toList = 3911) := by
      show _ = _
      rw [← HR.out]
      congr 1
    clear hX e1 e2
    generalize (⟨[UInt8.ofNat (n % 256), UInt8.ofNat (n / 256)].toArray⟩ : ByteArray) = X at *
    go_wp2_with fail
    refine (crc_any _ _ (by unfold maxLen; have := HX.out; omega)).mono ?_
    rintro e w2 ⟨rfl, rfl⟩
    rw [HD.out]
    go_wp2_with fail
    go_ret
    exact ⟨rfl, HB.out.alloc HB.out.size _⟩
end Go.Proofs.YtonhaoieeefglaaDoor
