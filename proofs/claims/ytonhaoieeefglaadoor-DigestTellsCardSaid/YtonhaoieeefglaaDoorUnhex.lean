/- digest.Unhex returns the string and the mark that the plain function unhexL says, for every string of at most 1000000 bytes. -/
import Derived.Test.YtonhaoieeefglaaDoorBytes
namespace Go.Proofs.YtonhaoieeefglaaDoor
open Go.RowKit
/-- is it a hexadecimal digit -/
def digOk (c : UInt8) : Bool := (decide (48 ≤ c.toNat) && decide (c.toNat ≤ 57)) || (decide (97 ≤ c.toNat) && decide (c.toNat ≤ 102))
def digV (c : UInt8) : Nat := if 48 ≤ c.toNat ∧ c.toNat ≤ 57 then c.toNat - 48 else if 97 ≤ c.toNat ∧ c.toNat ≤ 102 then c.toNat - 87 else 0
theorem digV_lt (c : UInt8) : digV c < 16 := by
  unfold digV
  split
  · omega
  · split <;> omega
theorem digit_any (c : UInt8) (w : World) : Calls Tryd.prog 21 #[.int .u8 (c.toNat : Int)] w fun e w' => e = .returned (.tuple #[.int .u8 (digV c : Nat), .bool (digOk c)]) ∧ w = w' := by
  have hc := c.toNat_lt
  have HV : Hid (digV c = if 48 ≤ c.toNat ∧ c.toNat ≤ 57 then c.toNat - 48 else if 97 ≤ c.toNat ∧ c.toNat ≤ 102 then c.toNat - 87 else 0) := rfl
  have HO : Hid (digOk c = ((decide (48 ≤ c.toNat) && decide (c.toNat ≤ 57)) || (decide (97 ≤ c.toNat) && decide (c.toNat ≤ 102)))) := rfl
  generalize digV c = dv at *
  generalize digOk c = dok at *
  generalize c.toNat = n at *
  by_cases h1 : 48 ≤ n
  · by_cases h2 : n ≤ 57
    · have e1 : dv = n - 48 := by rw [HV.out]; simp [h1, h2]
      have e2 : dok = true := by rw [HO.out]; simp [h1, h2]
      subst e1 e2
      have e3 : ((n - 48 : Nat) : Int) = (n : Int) - 48 := by omega
      have H3 := Lib.hid e3
      clear HV HO e3
      go_enter Tryd.func21, Tryd.ntmps21
      go_wp2
      go_ret2
      exact ⟨by rw [H3.out]; rfl, rfl⟩
    · by_cases h3 : 97 ≤ n
      · by_cases h4 : n ≤ 102
        · have e1 : dv = n - 87 := by rw [HV.out]; simp [h2, h3, h4]
          have e2 : dok = true := by rw [HO.out]; simp [h3, h4]
          subst e1 e2
          have e3 : ((n - 87 : Nat) : Int) = (n : Int) - 97 + 10 := by omega
          have H3 := Lib.hid e3
          clear HV HO e3
          go_enter Tryd.func21, Tryd.ntmps21
          go_wp2
          go_ret2
          exact ⟨by rw [H3.out]; rfl, rfl⟩
        · have e1 : dv = 0 := by rw [HV.out]; simp [h2, h4]
          have e2 : dok = false := by rw [HO.out]; simp [h2, h4]
          subst e1 e2
          clear HV HO
          go_enter Tryd.func21, Tryd.ntmps21
          go_wp2
          go_ret2
          exact ⟨rfl, rfl⟩
      · have e1 : dv = 0 := by rw [HV.out]; simp [h2, h3]
        have e2 : dok = false := by rw [HO.out]; simp [h2, h3]
        subst e1 e2
        clear HV HO
        go_enter Tryd.func21, Tryd.ntmps21
        go_wp2
        go_ret2
        exact ⟨rfl, rfl⟩
  · have h5 : ¬ 97 ≤ n := by omega
    have e1 : dv = 0 := by rw [HV.out]; simp [h1, h5]
    have e2 : dok = false := by rw [HO.out]; simp [h1, h5]
    subst e1 e2
    clear HV HO
    go_enter Tryd.func21, Tryd.ntmps21
    go_wp2
    go_ret2
    exact ⟨rfl, rfl⟩
def unhexL : List UInt8 → Option (List UInt8)
  | [] => some []
  | [_] => none
  | a :: b :: l => if (digOk a && digOk b) = true then (unhexL l).map fun t => UInt8.ofNat (16 * digV a + digV b) :: t else none
def unhexR (l : List UInt8) : List UInt8 × Bool := match unhexL l with
  | some r => (r, true)
  | none => ([], false)
theorem unhexL_odd : ∀ (n : Nat) (l : List UInt8), l.length = 2 * n + 1 → unhexL l = none
  | 0, l, h => by
    match l, h with
    | [a], _ => rfl
  | n + 1, l, h => by
    match l, h with
    | a :: b :: l, h =>
      have := unhexL_odd n l (by simp at h; omega)
      simp [unhexL, this]
theorem unhexR_none {l : List UInt8} (h : unhexL l = none) : unhexR l = ([], false) := by unfold unhexR; rw [h]
theorem unhexR_some {l r : List UInt8} (h : unhexL l = some r) : unhexR l = (r, true) := by unfold unhexR; rw [h]
theorem unhex_step {l pre : List UInt8} {k : Nat} {a b : UInt8} (h : unhexL l = (unhexL (l.drop (2 * k))).map fun t => pre ++ t) (ha : l[2 * k]? = some a) (hb : l[2 * k + 1]? = some b)
    (ho : (digOk a && digOk b) = true) : unhexL l = (unhexL (l.drop (2 * (k + 1)))).map fun t => (pre ++ [UInt8.ofNat (16 * digV a + digV b)]) ++ t := by
  have e : l.drop (2 * k) = a :: b :: l.drop (2 * (k + 1)) := by
    obtain ⟨h1, rfl⟩ := List.getElem?_eq_some_iff.1 ha
    obtain ⟨h2, rfl⟩ := List.getElem?_eq_some_iff.1 hb
    rw [List.drop_eq_getElem_cons h1, List.drop_eq_getElem_cons h2]
    rfl
  rw [h, e]
  simp only [unhexL, ho, if_true, Option.map_map]
  congr 1
  funext t
  simp
theorem unhex_fail {l pre : List UInt8} {k : Nat} {a b : UInt8} (h : unhexL l = (unhexL (l.drop (2 * k))).map fun t => pre ++ t) (ha : l[2 * k]? = some a) (hb : l[2 * k + 1]? = some b)
    (ho : (digOk a && digOk b) = false) : unhexL l = none := by
  have e : l.drop (2 * k) = a :: b :: l.drop (2 * (k + 1)) := by
    obtain ⟨h1, rfl⟩ := List.getElem?_eq_some_iff.1 ha
    obtain ⟨h2, rfl⟩ := List.getElem?_eq_some_iff.1 hb
    rw [List.drop_eq_getElem_cons h1, List.drop_eq_getElem_cons h2]
    rfl
  rw [h, e]
  simp [unhexL, ho]
theorem index_str (s : ByteArray) (i : Int) (n : Nat) (hi : i = (n : Int)) (hn : n < s.size) (w : World) : (Instr.index 9 (.string s) (.int .i64 i)).run Tryd.prog w = .ok (.int .u8 (s[n].toNat : Int)) w := by
  subst hi
  have h0 : (0 : Int) ≤ (n : Int) := Int.natCast_nonneg _
  have h : s[n]? = some s[n] := by simp [hn]
  simp [Instr.index, asIntOf, run_underlying undS, h]
set_option maxRecDepth 100000 in
set_option maxHeartbeats 1000000 in
theorem unhex_any (s : ByteArray) (w : World) (hs : s.size ≤ 1000000) :
    Calls Tryd.prog 11 #[.string s] w fun e w' => e = .returned (.tuple #[.string ⟨(unhexR s.data.toList).1.toArray⟩, .bool (unhexR s.data.toList).2]) ∧ Below w.heap.size w w' := by
  obtain ⟨i0, hi, hz0, hz1, hz2⟩ := info_parts infoB
  have hR := fun (h : unhexL s.data.toList = none) => unhexR_none h
  have hR2 := fun r (h : unhexL s.data.toList = some r) => unhexR_some h
  have HR := Lib.hid hR
  have HR2 := Lib.hid hR2
  clear hR hR2
  have hlen : s.data.toList.length = s.size := by simp
  by_cases hodd : s.size % 2 = 1
  · have hN := HR.out (unhexL_odd (s.size / 2) _ (by rw [hlen]; omega))
    rw [hN]
    have ho : (((s.size : Int) % 2) != 0) = true := by rw [bne_iff_ne]; omega
    clear hN hodd HR HR2 hlen
    go_enter Tryd.func11, Tryd.ntmps11
    go_wp2_with fail
    go_ret2
    exact ⟨rfl, Below.refl _ _⟩
  · have ho : (((s.size : Int) % 2) != 0) = false := by simp; omega
    go_enter Tryd.func11, Tryd.ntmps11
    go_upto_region 4 with (at_make; refine wpList_make_own _ rfl _ _ 30 rfl w.heap.size 5 i0 (.int .u8 0) 1 undBs hi hz0 hz1 .i64 .i64 _ (s.size / 2) rfl rfl (by omega) (by rw [hz2]; omega) (by unfold maxLen; omega) (Nat.le_refl _) ?_; intro w3 hown hgr)
    have HB0 : Hid (Below w.heap.size w w3) := Lib.hid ((Below.refl w.heap.size w).grown hgr (Nat.le_refl _) (fun k e => by cases e))
    have HO0 := Lib.hid hown
    have HL := Lib.hid hlen
    clear hown hgr hlen
    go_wp2_with fail
    go_loopw [4, 5] (fun v i wr => ∃ (k : Nat) (pre : List UInt8), 2 * k ≤ s.size ∧ pre.length = k ∧ i = .int .i64 (2 * (k : Int)) ∧ wr.ownsRow w.heap.size 5 1 v k (bytesV pre) ∧ Below w.heap.size w wr ∧
      unhexL s.data.toList = (unhexL (s.data.toList.drop (2 * k))).map fun t => pre ++ t) (fun _ i _ => s.size - (intOf i).toNat)
    case atStart => exact ⟨0, [], by omega, rfl, rfl, HO0.out, HB0.out, by cases h : unhexL s.data.toList <;> simp [h]⟩
    case round =>
      obtain ⟨k, pre, hk, hp, rfl, hown, hB, hU⟩ := hrel
      have HP := Lib.hid hp
      have HO := Lib.hid hown
      have HB := Lib.hid hB
      have HU := Lib.hid hU
      clear hp hown hB hU HO0 HB0
      by_cases hlt : 2 * k < s.size
      · have hlt2 : 2 * k + 1 < s.size := by omega
        have i1 := fun w => index_str s (2 * (k : Int)) (2 * k) (by omega) hlt w
        have i2 := fun w => index_str s (2 * (k : Int) + 1) (2 * k + 1) (by omega) hlt2 w
        have e1 : Hid (s.data.toList[2 * k]? = some s[2 * k]) := by
          show _ = _
          rw [List.getElem?_eq_getElem (by rw [HL.out]; exact hlt)]
          rfl
        have e2 : Hid (s.data.toList[2 * k + 1]? = some s[2 * k + 1]) := by
          show _ = _
          rw [List.getElem?_eq_getElem (by rw [HL.out]; exact hlt2)]
          rfl
        generalize s[2 * k] = a at *
        generalize s[2 * k + 1] = b at *
        have la := digV_lt a
        have lb := digV_lt b
        cases ha : digOk a
        · have hF := HR.out (unhex_fail HU.out e1.out e2.out (by rw [ha]; rfl))
          have HF := Lib.hid hF
          have HA := Lib.hid ha
          clear hF ha
          go_wp2_with fail
          refine (digit_any a _).mono ?_
          rintro e w' ⟨rfl, rfl⟩
          rw [HA.out]
          go_wp2_with fail
          refine (digit_any b _).mono ?_
          rintro e w' ⟨rfl, rfl⟩
          generalize digOk b = okb
          go_wp2_with fail
          rw [HF.out]
          go_ret2
          exact ⟨rfl, HB.out⟩
        · cases hb : digOk b
          · have hF := HR.out (unhex_fail HU.out e1.out e2.out (by rw [ha, hb]; rfl))
            have HF := Lib.hid hF
            have HA := Lib.hid ha
            have HBb := Lib.hid hb
            clear hF ha hb
            go_wp2_with fail
            refine (digit_any a _).mono ?_
            rintro e w' ⟨rfl, rfl⟩
            rw [HA.out]
            go_wp2_with fail
            refine (digit_any b _).mono ?_
            rintro e w' ⟨rfl, rfl⟩
            rw [HBb.out]
            go_wp2_with fail
            rw [HF.out]
            go_ret2
            exact ⟨rfl, HB.out⟩
          · have hS := unhex_step HU.out e1.out e2.out (by rw [ha, hb]; rfl)
            have HS := Lib.hid hS
            have HA := Lib.hid ha
            have HBb := Lib.hid hb
            clear hS ha hb
            go_wp2_with fail
            refine (digit_any a _).mono ?_
            rintro e w' ⟨rfl, rfl⟩
            rw [HA.out]
            go_wp2_with fail
            refine (digit_any b _).mono ?_
            rintro e w' ⟨rfl, rfl⟩
            rw [HBb.out]
            generalize digV a = va at *
            generalize digV b = vb at *
            go_wp2_with (at_builtin; refine Hid.out ?_)
            refine Lib.hid ?_
            refine wpList_append_own _ rfl _ _ 30 rfl w.heap.size 5 i0 (.int .u8 0) 1 1 undBs hi hz0 hz1 hz2 rfl (by decide) _ _ _ rfl (HO.out.alloc _) ⟨wr.heap.size, 0, none⟩ 1 1 _ rfl (by rfl) (cells_new _ _ _) (by simp [Value.oneCell']) (by unfold maxLen; omega) (by omega) (by have := HB.out.size; simpa using Nat.le_succ_of_le this) ?_
            intro v' w1 hown1 hgr1 _
            have HO1 : Hid (w1.ownsRow w.heap.size 5 1 v' (k + 1) (bytesV (pre ++ [UInt8.ofNat (16 * va + vb)]))) := by
              have e3 : bytesV [UInt8.ofNat (16 * va + vb)] = [.int .u8 (16 * (va : Int) + (vb : Int))] := by
                simp only [bytesV, List.map_cons, List.map_nil, UInt8.toNat_ofNat']
                congr 2
                rw [Nat.mod_eq_of_lt (by omega)]
                omega
              rw [bytesV_append, e3]
              exact hown1
            have HB1 : Hid (Below w.heap.size w w1) := Lib.hid ((HB.out.alloc HB.out.size _).grown hgr1 (by have := HB.out.size; simpa using Nat.le_succ_of_le this) (fun q e => HO.out.block_ge e))
            clear hown1 hgr1
            go_wp2_with fail
            go_roundw
            case rel => exact ⟨k + 1, _, by omega, by simp [HP.out], by go_num, HO1.out, HB1.out, HS.out⟩
            case measure => simp [intOf]; omega
      · have hk2 : 2 * k = s.size := by omega
        have hS := HR2.out pre (by rw [HU.out, hk2, List.drop_of_length_le (by rw [HL.out]; exact Nat.le_refl _)]; simp [unhexL])
        have HS := Lib.hid hS
        clear hS hk2
        go_wp2_with (refine wpList_string_own rfl 30 9 5 _ rfl undBs undB undS _ rfl w.heap.size k pre HO.out ?_)
        rw [HS.out]
        go_ret2
        exact ⟨rfl, HB.out⟩
end Go.Proofs.YtonhaoieeefglaaDoor
