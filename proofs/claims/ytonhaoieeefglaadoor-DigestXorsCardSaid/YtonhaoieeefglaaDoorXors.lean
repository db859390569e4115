/- bournelaw03.DigestXors returns true for all three strings. -/
import Derived.Test.YtonhaoieeefglaaDoorDetects
namespace Go.Proofs.YtonhaoieeefglaaDoor
open Go.RowKit
theorem run_string_own {w : World} {v : Value} {base n : Nat} {bs : List UInt8} (hown : w.ownsRow base 5 1 v n (bytesV bs)) : (convert 30 9 v).run Tryd.prog w = .ok (.string ⟨bs.toArray⟩) w := by
  have hlen : bs.length = n := by have := hown.1; rw [bytesV_length] at this; omega
  rcases hown.2 with ⟨rfl, hn⟩ | ⟨g, cap, cur, rfl, _, hh, hnc, _, hcs, htk⟩
  · have : bs = [] := List.eq_nil_of_length_eq_zero (by omega)
    subst this
    exact run_convert_bytes_nil w 30 5 undBs undB 0 0 9 undS
  · subst hlen
    refine run_convert_bytes_back w _ _ 5 _ cap bs undBs undB undS fun j hj => ?_
    rw [Addr.add_mid, Nat.zero_add, cell_of_row _ _ _ _ _ _ hh]
    have h1 : (cur.toList.take (bs.length * 1))[j]? = (bytesV bs)[j]? := by rw [htk]
    rw [List.getElem?_take] at h1
    simpa [hj, bytesV] using h1
theorem xor3_get : ∀ (x y z : List UInt8) (k : Nat) (p q r : UInt8), x[k]? = some p → y[k]? = some q → z[k]? = some r → (xor3 x y z)[k]? = some (p ^^^ q ^^^ r)
  | [], _, _, _, _, _, _, h, _, _ => by simp at h
  | _ :: _, [], _, _, _, _, _, _, h, _ => by simp at h
  | _ :: _, _ :: _, [], _, _, _, _, _, _, h => by simp at h
  | a :: x, b :: y, c :: z, 0, p, q, r, h1, h2, h3 => by
    simp only [List.getElem?_cons_zero, Option.some.injEq] at h1 h2 h3
    subst h1 h2 h3
    rfl
  | a :: x, b :: y, c :: z, k + 1, p, q, r, h1, h2, h3 => by
    simp only [List.getElem?_cons_succ] at h1 h2 h3
    simpa [xor3] using xor3_get x y z k p q r h1 h2 h3
theorem xor3_take : ∀ (n : Nat) (x y z : List UInt8), xor3 (x.take n) (y.take n) (z.take n) = (xor3 x y z).take n
  | 0, x, y, z => by simp [xor3]
  | n + 1, [], y, z => by simp [xor3]
  | n + 1, a :: x, [], z => by simp [xor3]
  | n + 1, a :: x, b :: y, [] => by simp [xor3]
  | n + 1, a :: x, b :: y, c :: z => by simp [xor3, xor3_take n x y z]
set_option maxRecDepth 100000 in
set_option maxHeartbeats 1000000 in
theorem xors_core (a b c : ByteArray) (w : World) (hg : Glob w) (ha : a.size ≤ maxLen) (_hb : b.size ≤ maxLen) (_hc : c.size ≤ maxLen) :
    Calls Tryd.prog 6 #[.string a, .string b, .string c] w fun e w' => e = .returned (.bool true) ∧ Below w.heap.size w w' := by
  unfold maxLen at ha
  have Hg := Lib.hid hg
  clear hg
  obtain ⟨i0, hi, hz0, hz1, hz2⟩ := info_parts infoB
  go_enter Tryd.func6, Tryd.ntmps6
  go_wp2_with fail
  refine (small_any _ Hg.out).mono ?_
  rintro e w1 ⟨rfl, hb1⟩
  have HB0 := Lib.hid hb1
  clear hb1
  go_upto_region 3 with (fail)
  have hmin : ∃ n : Nat, (if (c.size : Int) < (if b.size < a.size then (b.size : Int) else (a.size : Int)) then (c.size : Int) else if b.size < a.size then (b.size : Int) else (a.size : Int)) = (n : Int) ∧ n ≤ a.size ∧ n ≤ b.size ∧ n ≤ c.size := by
    by_cases h1 : b.size < a.size
    · rw [if_pos h1]
      by_cases h2 : (c.size : Int) < (b.size : Int)
      · rw [if_pos h2]; exact ⟨c.size, rfl, by omega, by omega, by omega⟩
      · rw [if_neg h2]; exact ⟨b.size, rfl, by omega, by omega, by omega⟩
    · rw [if_neg h1]
      by_cases h2 : (c.size : Int) < (a.size : Int)
      · rw [if_pos h2]; exact ⟨c.size, rfl, by omega, by omega, by omega⟩
      · rw [if_neg h2]; exact ⟨a.size, rfl, by omega, by omega, by omega⟩
  obtain ⟨n, hn, hna, hnb, hnc⟩ := hmin
  rw [hn]
  clear hn
  by_cases g1 : 2000 < n
  · go_wp2_with fail
    go_ret
    exact ⟨rfl, HB0.out⟩
  · go_wp2_with fail
    go_loopw [9, 10] (fun v i wr => ∃ k : Nat, k ≤ n ∧ i = .int .i64 k ∧ wr.ownsRow w.heap.size 5 1 v k (bytesV ((xor3 a.data.toList b.data.toList c.data.toList).take k)) ∧ Below w.heap.size w wr) (fun _ i _ => n - (intOf i).toNat)
    case atStart => exact ⟨0, by omega, rfl, World.ownsRow_nil _ _ _ _, HB0.out⟩
    case round =>
      obtain ⟨k, hk, rfl, hown, hB⟩ := hrel
      have HO := Lib.hid hown.drew
      have HB := Lib.hid hB.drew
      have HO' := Lib.hid hown
      have HB' := Lib.hid hB
      clear hown hB HB0
      by_cases hlt : k < n
      · have hka : k < a.size := by omega
        have hkb : k < b.size := by omega
        have hkc : k < c.size := by omega
        have HT : Hid ((xor3 a.data.toList b.data.toList c.data.toList).take (k + 1) = (xor3 a.data.toList b.data.toList c.data.toList).take k ++ [a[k] ^^^ b[k] ^^^ c[k]]) := by
          show _ = _
          rw [List.take_add_one]
          rw [xor3_get _ _ _ k a[k] b[k] c[k] (by rw [List.getElem?_eq_getElem (by simpa using hka)]; rfl) (by rw [List.getElem?_eq_getElem (by simpa using hkb)]; rfl) (by rw [List.getElem?_eq_getElem (by simpa using hkc)]; rfl)]
          rfl
        have x1 := (a[k]).toNat_lt
        have x2 := (b[k]).toNat_lt
        have x3 := (c[k]).toNat_lt
        have x4 : bits BinOp.xor IntKind.u8 (a[k].toNat : Int) (b[k].toNat : Int) = (((a[k] ^^^ b[k]).toNat : Nat) : Int) := by rw [u8_xor_nat _ _ x1 x2, UInt8.toNat_xor]
        have x5 : bits BinOp.xor IntKind.u8 ((a[k] ^^^ b[k]).toNat : Int) (c[k].toNat : Int) = (((a[k] ^^^ b[k] ^^^ c[k]).toNat : Nat) : Int) := by rw [u8_xor_nat _ _ (a[k] ^^^ b[k]).toNat_lt x3, UInt8.toNat_xor (a[k] ^^^ b[k])]
        go_wp2_with fail
        refine wp_region_noPanic ?_
        refine wp_region_held_drew (S := fun _ => True) (by kernel_rfl) trivial (fun hHeld => ?_)
        refine' wpAnyH_take (i := 0) (v := _) (by simp only [List.getElem?_toArray, List.getElem?_cons_zero]; exact rfl) (by kernel_rfl) (by kernel_rfl) (by kernel_rfl) (fun _ _ _ h => h) (Or.inl ⟨by rfl, ?y0x1xq⟩) trivial ?r0x1xq
        case y0x1xq => (intro w hSw; go_simp; try with_reducible rfl)
        try simp only [Act.put, List.setIfInBounds_toArray, List.set_cons_zero, List.set_cons_succ]
        refine' wpAnyH_take (i := 1) (v := _) (by simp only [List.getElem?_toArray, List.getElem?_cons_succ, List.getElem?_cons_zero]; exact rfl) (by kernel_rfl) (by kernel_rfl) (by kernel_rfl) (fun _ _ _ h => h) (Or.inl ⟨by rfl, ?y1x2xq⟩) trivial ?r1x2xq
        case y1x2xq => (intro w hSw; go_simp; try with_reducible rfl)
        try simp only [Act.put, List.setIfInBounds_toArray, List.set_cons_zero, List.set_cons_succ]
        refine' wpAnyH_take (i := 2) (v := _) (by simp only [List.getElem?_toArray, List.getElem?_cons_succ, List.getElem?_cons_zero]; exact rfl) (by kernel_rfl) (by kernel_rfl) (by kernel_rfl) (fun _ _ _ h => h) (Or.inl ⟨by rfl, ?y2x3xq⟩) trivial ?r2x3xq
        case y2x3xq => (intro w hSw; go_simp; try with_reducible rfl)
        try simp only [Act.put, List.setIfInBounds_toArray, List.set_cons_zero, List.set_cons_succ]
        refine' wpAnyH_take (i := 3) (v := _) (by simp only [List.getElem?_toArray, List.getElem?_cons_succ, List.getElem?_cons_zero]; exact rfl) (by kernel_rfl) (by kernel_rfl) (by kernel_rfl) (fun _ _ _ h => h) (Or.inl ⟨by rfl, ?y3x4xq⟩) trivial ?r3x4xq
        case y3x4xq => (intro w hSw; go_simp; try with_reducible rfl)
        try simp only [Act.put, List.setIfInBounds_toArray, List.set_cons_zero, List.set_cons_succ]
        refine' wpAnyH_take (i := 4) (v := _) (by simp only [List.getElem?_toArray, List.getElem?_cons_succ, List.getElem?_cons_zero]; exact rfl) (by kernel_rfl) (by kernel_rfl) (by kernel_rfl) (fun _ _ _ h => h) (Or.inl ⟨by rfl, ?y4x5xq⟩) trivial ?r4x5xq
        case y4x5xq => (intro w hSw; go_simp; try with_reducible rfl)
        try simp only [Act.put, List.setIfInBounds_toArray, List.set_cons_zero, List.set_cons_succ]
        refine' wpAnyH_take (i := 5) (v := _) (by simp only [List.getElem?_toArray, List.getElem?_cons_succ, List.getElem?_cons_zero]; exact rfl) (by kernel_rfl) (by kernel_rfl) (by kernel_rfl) (fun _ _ _ h => h) (Or.inl ⟨by rfl, ?y5x6xq⟩) trivial ?r5x6xq
        case y5x6xq => (intro w hSw; go_simp; try with_reducible rfl)
        try simp only [Act.put, List.setIfInBounds_toArray, List.set_cons_zero, List.set_cons_succ]
        refine' wpAnyH_take (i := 6) (v := _) (by simp only [List.getElem?_toArray, List.getElem?_cons_succ, List.getElem?_cons_zero]; exact rfl) (by kernel_rfl) (by kernel_rfl) (by kernel_rfl) (fun _ _ _ h => h) (Or.inl ⟨by rfl, ?y6x7xq⟩) trivial ?r6x7xq
        case y6x7xq => (intro w hSw; go_simp; try with_reducible rfl)
        try simp only [Act.put, List.setIfInBounds_toArray, List.set_cons_zero, List.set_cons_succ]
        refine' wpAnyH_take (i := 7) (v := _) (by simp only [List.getElem?_toArray, List.getElem?_cons_succ, List.getElem?_cons_zero]; exact rfl) (by kernel_rfl) (by kernel_rfl) (by kernel_rfl) (fun _ _ _ h => h) (Or.inl ⟨by rfl, ?y7x8xq⟩) trivial ?r7x8xq
        case y7x8xq => (intro w hSw; go_simp; try with_reducible rfl)
        try simp only [Act.put, List.setIfInBounds_toArray, List.set_cons_zero, List.set_cons_succ]
        refine' wpAnyH_take (i := 8) (v := _) (by simp only [List.getElem?_toArray, List.getElem?_cons_succ, List.getElem?_cons_zero]; exact rfl) (by kernel_rfl) (by kernel_rfl) (by kernel_rfl) (fun _ _ _ h => h) (Or.inl ⟨by rfl, ?y8x9xq⟩) trivial ?r8x9xq
        case y8x9xq => (intro w hSw; go_simp; try with_reducible rfl)
        try simp only [Act.put, List.setIfInBounds_toArray, List.set_cons_zero, List.set_cons_succ]
        refine' wpAnyH_take (i := 9) (v := _) (by simp only [List.getElem?_toArray, List.getElem?_cons_succ, List.getElem?_cons_zero]; exact rfl) (by kernel_rfl) (by kernel_rfl) (by kernel_rfl) (fun _ _ _ h => h) (Or.inl ⟨by rfl, ?y9x10xq⟩) trivial ?r9x10xq
        case y9x10xq => (intro w hSw; go_simp; try with_reducible rfl)
        try simp only [Act.put, List.setIfInBounds_toArray, List.set_cons_zero, List.set_cons_succ]
        refine' wpAnyH_take (i := 10) (v := _) (by simp only [List.getElem?_toArray, List.getElem?_cons_succ, List.getElem?_cons_zero]; exact rfl) (by kernel_rfl) (by kernel_rfl) (by kernel_rfl) (fun _ _ _ h => h) (Or.inl ⟨by rfl, ?y10x11xq⟩) trivial ?r10x11xq
        case y10x11xq => (intro w hSw; go_simp; try with_reducible rfl)
        try simp only [Act.put, List.setIfInBounds_toArray, List.set_cons_zero, List.set_cons_succ]
        refine' wpAnyH_take (i := 11) (v := _) (by simp only [List.getElem?_toArray, List.getElem?_cons_succ, List.getElem?_cons_zero]; exact rfl) (by kernel_rfl) (by kernel_rfl) (by kernel_rfl) (fun _ _ _ h => h) (Or.inl ⟨by rfl, ?y11x12xq⟩) trivial ?r11x12xq
        case y11x12xq => (intro w hSw; go_simp; try with_reducible rfl)
        try simp only [Act.put, List.setIfInBounds_toArray, List.set_cons_zero, List.set_cons_succ]
        refine wpAnyH_ready (rs := [12]) (by kernel_rfl) (by simp) ?_
        refine AllReadyH.cons (by simp only [List.getElem?_toArray, List.getElem?_cons_succ, List.getElem?_cons_zero]; exact rfl) (fun K1 hK1 => ?_) AllReadyH.nil
        rw [if_pos (by rfl)]
        go_simp
        refine hK1.out _ _ trivial (fun _ => ?_)
        clear hK1 K1
        try simp only [Act.put, List.setIfInBounds_toArray, List.set_cons_zero, List.set_cons_succ]
        refine wpAnyH_ready (rs := [13]) (by kernel_rfl) (by simp) ?_
        refine AllReadyH.cons (by simp only [List.getElem?_toArray, List.getElem?_cons_succ, List.getElem?_cons_zero]; exact rfl) (fun K2 hK2 => ?_) AllReadyH.nil
        rw [if_pos (by rfl)]
        refine wp_append_own _ _ _ 30 rfl w.heap.size 5 i0 (.int .u8 0) 1 1 undBs hi hz0 hz1 hz2 rfl (by decide) _ _ _ rfl (HO.out.alloc _) ⟨wr.heap.size, 0, none⟩ 1 1 _ rfl (by rfl) (cells_new _ _ _) (by simp [Value.oneCell']) (by unfold maxLen; omega) (by omega) (by have := HB.out.size; simpa using Nat.le_succ_of_le this) ?_
        intro v' w1 hown1 hgr1 _
        refine hK2.out _ _ trivial (fun _ => ?_)
        clear hK2 K2
        try simp only [Act.put, List.setIfInBounds_toArray, List.set_cons_zero, List.set_cons_succ]
        refine' wpAnyH_take (i := 14) (v := _) (by simp only [List.getElem?_toArray, List.getElem?_cons_succ, List.getElem?_cons_zero]; exact rfl) (by kernel_rfl) (by kernel_rfl) (by kernel_rfl) (fun _ _ _ h => h) (Or.inl ⟨by rfl, ?y14x13xq⟩) trivial ?r14x13xq
        case y14x13xq => (intro w hSw; go_simp; try with_reducible rfl)
        try simp only [Act.put, List.setIfInBounds_toArray, List.set_cons_zero, List.set_cons_succ]
        refine wpAnyH_done (by kernel_rfl) ?_ _
        refine NoPanic.normal ?_
        have HO1 : Hid (w1.ownsRow w.heap.size 5 1 v' (k + 1) (bytesV ((xor3 a.data.toList b.data.toList c.data.toList).take (k + 1)))) := by
          refine Lib.hid ?_
          have e : bits BinOp.xor IntKind.u8 ((a[k].toNat ^^^ b[k].toNat : Nat) : Int) (c[k].toNat : Int) = (((a[k] ^^^ b[k] ^^^ c[k]).toNat : Nat) : Int) := by
            rw [u8_xor_nat _ _ (by rw [← UInt8.toNat_xor]; exact (a[k] ^^^ b[k]).toNat_lt) (c[k]).toNat_lt, UInt8.toNat_xor, UInt8.toNat_xor]
          rw [HT.out, bytesV_append]
          rw [e] at hown1
          exact hown1
        have HB1 : Hid (Below w.heap.size w w1) := Lib.hid ((HB.out.alloc HB.out.size _).grown hgr1 (by have := HB.out.size; simpa using Nat.le_succ_of_le this) (fun q e => HO.out.block_ge e))
        clear hown1 hgr1
        go_wp2_with fail
        go_roundw
        case rel => exact ⟨k + 1, by omega, by go_num, HO1.out, HB1.out⟩
        case measure => simp [intOf]; omega
      · obtain rfl : k = n := by omega
        clear hlt hk
        have kc := fun nq => run_string_own (w := wr.drewN nq) HO'.out
        have z0 : (0 : Int) ≤ (k : Int) := by omega
        have za : (k : Int) ≤ (a.size : Int) := by omega
        have zb : (k : Int) ≤ (b.size : Int) := by omega
        have zc : (k : Int) ≤ (c.size : Int) := by omega
        go_wp2_with fail
        go_quiet ((go_at_call 13; refine Calls.quiet_of_same ((crc_any _ _ ?_).mono fun e w' h => ⟨h.1, h.2.symm⟩); unfold maxLen; (first | (simp only [ByteArray.size_extract]; omega) | (simp only [ByteArray.size, List.size_toArray, List.length_take]; omega))))
        go_wp2_with fail
        have hE : ((crcL (List.take k (xor3 a.data.toList b.data.toList c.data.toList)) : Int) == bits BinOp.xor IntKind.i64 (bits BinOp.xor IntKind.i64 (crcL (List.take k a.data.toList) : Int) (crcL (List.take k b.data.toList) : Int)) (crcL (List.take k c.data.toList) : Int)) = true := by
          have l1 := crcL_lt (List.take k a.data.toList)
          have l2 := crcL_lt (List.take k b.data.toList)
          have l3 := crcL_lt (List.take k c.data.toList)
          have l4 := xor_lt16 l1 l2
          rw [i64_xor_nat _ _ (by omega) (by omega), i64_xor_nat _ _ (by omega) (by omega), ← xor3_take, crc_xor3 (n := k) (by simp; omega) (by simp; omega) (by simp; omega)]
          simp
        go_ret
        exact ⟨ret_true hE, below_drewN HB'.out⟩
end Go.Proofs.YtonhaoieeefglaaDoor
