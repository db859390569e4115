/- The reference's Unhex returns what the plain function unhexR says, for strings of at most 1000000 bytes. -/
import Derived.Test.YtonhaoieeefglaaDoorReg
import Derived.Test.YtonhaoieeefglaaDoorUnhex
namespace Go.Proofs.YtonhaoieeefglaaDoor
open Go.RowKit
def valV (c : UInt8) : Int := if digOk c then (digV c : Int) else -1
theorem rvalue_any (c : UInt8) (w : World) : Calls Tryd.prog 22 #[.int .u8 (c.toNat : Int)] w fun e w' => e = .returned (.int .i64 (valV c)) ∧ w = w' := by
  have hc := c.toNat_lt
  have HV : Hid (valV c = if ((decide (48 ≤ c.toNat) && decide (c.toNat ≤ 57)) || (decide (97 ≤ c.toNat) && decide (c.toNat ≤ 102))) then (((if 48 ≤ c.toNat ∧ c.toNat ≤ 57 then c.toNat - 48 else if 97 ≤ c.toNat ∧ c.toNat ≤ 102 then c.toNat - 87 else 0) : Nat) : Int) else -1) := rfl
  generalize valV c = dv at *
  generalize c.toNat = n at *
  by_cases h1 : 48 ≤ n
  · by_cases h2 : n ≤ 57
    · have e1 : dv = (n : Int) - 48 := by rw [HV.out]; simp [h1, h2]; omega
      subst e1
      clear HV
      go_enter Tryd.func22, Tryd.ntmps22
      go_wp2
      go_ret
      exact ⟨rfl, rfl⟩
    · by_cases h3 : 97 ≤ n
      · by_cases h4 : n ≤ 102
        · have e1 : dv = (n : Int) - 97 + 10 := by rw [HV.out]; simp [h2, h3, h4]; omega
          subst e1
          clear HV
          go_enter Tryd.func22, Tryd.ntmps22
          go_wp2
          go_ret
          exact ⟨rfl, rfl⟩
        · have e1 : dv = -1 := by rw [HV.out]; simp [h2, h4]
          subst e1
          clear HV
          go_enter Tryd.func22, Tryd.ntmps22
          go_wp2
          go_ret
          exact ⟨rfl, rfl⟩
      · have e1 : dv = -1 := by rw [HV.out]; simp [h2, h3]
        subst e1
        clear HV
        go_enter Tryd.func22, Tryd.ntmps22
        go_wp2
        go_ret
        exact ⟨rfl, rfl⟩
  · have h5 : ¬ 97 ≤ n := by omega
    have e1 : dv = -1 := by rw [HV.out]; simp [h1, h5]
    subst e1
    clear HV
    go_enter Tryd.func22, Tryd.ntmps22
    go_wp2
    go_ret
    exact ⟨rfl, rfl⟩
theorem valV_ok {c : UInt8} (h : digOk c = true) : valV c = (digV c : Int) := by unfold valV; rw [if_pos h]
theorem valV_no {c : UInt8} (h : digOk c = false) : valV c = -1 := by unfold valV; rw [h]; rfl
set_option maxRecDepth 100000 in
set_option maxHeartbeats 1000000 in
theorem runhex_any (s : ByteArray) (w : World) (hs : s.size ≤ 1000000) :
    Calls Tryd.prog 14 #[.string s] w fun e w' => e = .returned (.tuple #[.string ⟨(unhexR s.data.toList).1.toArray⟩, .bool (unhexR s.data.toList).2]) ∧ Below w.heap.size w w' := by
  obtain ⟨i0, hi, hz0, hz1, hz2⟩ := info_parts infoB
  have hR := fun (h : unhexL s.data.toList = none) => unhexR_none h
  have hR2 := fun r (h : unhexL s.data.toList = some r) => unhexR_some h
  have HR := Lib.hid hR
  have HR2 := Lib.hid hR2
  clear hR hR2
  have hlen : s.data.toList.length = s.size := by simp
  by_cases hodd : s.size % 2 = 1
  · have hN := HR.out (unhexL_odd (s.size / 2) _ (by rw [hlen]; omega))
    rw [hN]
    have ho : (((s.size : Int) % 2) == 1) = true := beq_iff_eq.2 (by omega)
    clear hN hodd HR HR2 hlen
    go_enter Tryd.func14, Tryd.ntmps14
    go_wp2_with fail
    go_ret2
    exact ⟨rfl, Below.refl _ _⟩
  · have ho : (((s.size : Int) % 2) == 1) = false := beq_eq_false_iff_ne.2 (by omega)
    go_enter Tryd.func14, Tryd.ntmps14
    have HL := Lib.hid hlen
    clear hlen
    go_wp2_with fail
    go_loopw [4, 5] (fun v i wr => ∃ (k : Nat) (pre : List UInt8), 2 * k ≤ s.size ∧ pre.length = k ∧ i = .int .i64 (2 * (k : Int)) ∧ wr.ownsRow w.heap.size 5 1 v k (bytesV pre) ∧ Below w.heap.size w wr ∧
      unhexL s.data.toList = (unhexL (s.data.toList.drop (2 * k))).map fun t => pre ++ t) (fun _ i _ => s.size - (intOf i).toNat)
    case atStart => exact ⟨0, [], by omega, rfl, rfl, World.ownsRow_nil _ _ _ _, Below.refl _ _, by cases h : unhexL s.data.toList <;> simp [h]⟩
    case round =>
      obtain ⟨k, pre, hk, hp, rfl, hown, hB, hU⟩ := hrel
      have HP := Lib.hid hp
      have HO := Lib.hid hown
      have HB := Lib.hid hB
      have HU := Lib.hid hU
      clear hp hown hB hU
      by_cases hlt : 2 * k < s.size
      · have hlt2 : 2 * k + 1 < s.size := by omega
        have i1 := fun w => index_str s (2 * (k : Int)) (2 * k) (by omega) hlt w
        have i2 := fun w => index_str s (2 * (k : Int) + 1) (2 * k + 1) (by omega) hlt2 w
        have e1 : Hid (s.data.toList[2 * k]? = some s[2 * k]) := by
          show _ = _
          rw [List.getElem?_eq_getElem (by rw [HL.out]; exact hlt)]
          rfl
        have e2 : Hid (s.data.toList[2 * k + 1]? = some s[2 * k + 1]) := by
          show _ = _
          rw [List.getElem?_eq_getElem (by rw [HL.out]; exact hlt2)]
          rfl
        generalize s[2 * k] = a at *
        generalize s[2 * k + 1] = b at *
        have la := digV_lt a
        have lb := digV_lt b
        cases ha : digOk a
        · have hF := HR.out (unhex_fail HU.out e1.out e2.out (by rw [ha]; rfl))
          have HF := Lib.hid hF
          have HAv := Lib.hid (valV_no ha)
          clear hF ha
          go_wp2_with fail
          refine (rvalue_any a _).mono ?_
          rintro e w' ⟨rfl, rfl⟩
          rw [HAv.out]
          go_wp2_with fail
          refine (rvalue_any b _).mono ?_
          rintro e w' ⟨rfl, rfl⟩
          have hvb : -1 ≤ valV b ∧ valV b < 16 := by unfold valV; split <;> omega
          generalize valV b = okb at *
          go_wp2_with fail
          rw [HF.out]
          go_ret2
          exact ⟨rfl, HB.out⟩
        · cases hb : digOk b
          · have hF := HR.out (unhex_fail HU.out e1.out e2.out (by rw [ha, hb]; rfl))
            have HF := Lib.hid hF
            have HAv := Lib.hid (valV_ok ha)
            have HBv := Lib.hid (valV_no hb)
            clear hF ha hb
            go_wp2_with fail
            refine (rvalue_any a _).mono ?_
            rintro e w' ⟨rfl, rfl⟩
            rw [HAv.out]
            go_wp2_with fail
            refine (rvalue_any b _).mono ?_
            rintro e w' ⟨rfl, rfl⟩
            rw [HBv.out]
            go_wp2_with fail
            rw [HF.out]
            go_ret2
            exact ⟨rfl, HB.out⟩
          · have hS := unhex_step HU.out e1.out e2.out (by rw [ha, hb]; rfl)
            have HS := Lib.hid hS
            have HAv := Lib.hid (valV_ok ha)
            have HBv := Lib.hid (valV_ok hb)
            clear hS ha hb
            go_wp2_with fail
            refine (rvalue_any a _).mono ?_
            rintro e w' ⟨rfl, rfl⟩
            rw [HAv.out]
            go_wp2_with fail
            refine (rvalue_any b _).mono ?_
            rintro e w' ⟨rfl, rfl⟩
            rw [HBv.out]
            generalize digV a = va at *
            generalize digV b = vb at *
            go_wp2_with (at_builtin; refine Hid.out ?_)
            refine Lib.hid ?_
            refine wpList_append_own _ rfl _ _ 30 rfl w.heap.size 5 i0 (.int .u8 0) 1 1 undBs hi hz0 hz1 hz2 rfl (by decide) _ _ _ rfl (HO.out.alloc _) ⟨wr.heap.size, 0, none⟩ 1 1 _ rfl (by rfl) (cells_new _ _ _) (by simp [Value.oneCell']) (by unfold maxLen; omega) (by omega) (by have := HB.out.size; simpa using Nat.le_succ_of_le this) ?_
            intro v' w1 hown1 hgr1 _
            have HO1 : Hid (w1.ownsRow w.heap.size 5 1 v' (k + 1) (bytesV (pre ++ [UInt8.ofNat (16 * va + vb)]))) := by
              have e3 : bytesV [UInt8.ofNat (16 * va + vb)] = [.int .u8 (16 * (va : Int) + (vb : Int))] := by
                simp only [bytesV, List.map_cons, List.map_nil, UInt8.toNat_ofNat']
                congr 2
                rw [Nat.mod_eq_of_lt (by omega)]
                omega
              rw [bytesV_append, e3]
              exact hown1
            have HB1 : Hid (Below w.heap.size w w1) := Lib.hid ((HB.out.alloc HB.out.size _).grown hgr1 (by have := HB.out.size; simpa using Nat.le_succ_of_le this) (fun q e => HO.out.block_ge e))
            clear hown1 hgr1
            go_wp2_with fail
            go_roundw
            case rel => exact ⟨k + 1, _, by omega, by simp [HP.out], by go_num, HO1.out, HB1.out, HS.out⟩
            case measure => simp [intOf]; omega
      · have hk2 : 2 * k = s.size := by omega
        have hS := HR2.out pre (by rw [HU.out, hk2, List.drop_of_length_le (by rw [HL.out]; exact Nat.le_refl _)]; simp [unhexL])
        have HS := Lib.hid hS
        clear hS hk2
        go_wp2_with (refine wpList_string_own rfl 30 9 5 _ rfl undBs undB undS _ rfl w.heap.size k pre HO.out ?_)
        rw [HS.out]
        go_ret2
        exact ⟨rfl, HB.out⟩
end Go.Proofs.YtonhaoieeefglaaDoor
