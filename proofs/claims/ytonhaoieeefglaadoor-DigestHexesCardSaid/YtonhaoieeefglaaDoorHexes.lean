/- bournelaw03.DigestHexes returns true for all strings. -/
import Derived.Test.YtonhaoieeefglaaDoorSmall
namespace Go.Proofs.YtonhaoieeefglaaDoor
open Go.RowKit
theorem hexD_ok : ∀ n, n < 16 → digOk (hexD n) = true ∧ digV (hexD n) = n := by decide +kernel
theorem dig_back : ∀ n, n < 256 → digOk (UInt8.ofNat n) = true → hexD (digV (UInt8.ofNat n)) = UInt8.ofNat n := by decide +kernel
theorem dig_back' (c : UInt8) (h : digOk c = true) : hexD (digV c) = c := by
  have h1 := dig_back c.toNat c.toNat_lt
  simp only [UInt8.ofNat_toNat] at h1
  exact h1 h
theorem unhex_hex (l : List UInt8) : unhexL (hexL l) = some l := by
  induction l with
  | nil => rfl
  | cons b l ih =>
    have hb := b.toNat_lt
    have h1 := hexD_ok (b.toNat / 16) (by omega)
    have h2 := hexD_ok (b.toNat % 16) (by omega)
    simp only [hexL, hex2, List.cons_append, List.nil_append, unhexL, h1, h2, Bool.and_self, if_true, ih, Option.map_some]
    congr 2
    rw [show 16 * (b.toNat / 16) + b.toNat % 16 = b.toNat by omega]
    simp
theorem hex_unhex : ∀ (n : Nat) (h r : List UInt8), h.length ≤ 2 * n → unhexL h = some r → hexL r = h
  | 0, h, r, hl, hu => by
    match h, hl with
    | [], _ => simp [unhexL] at hu; subst hu; rfl
  | n + 1, h, r, hl, hu => by
    match h, hl, hu with
    | [], _, hu => simp [unhexL] at hu; subst hu; rfl
    | [a], _, hu => simp [unhexL] at hu
    | a :: b :: l, hl, hu =>
      simp only [unhexL] at hu
      split at hu
      · rename_i ho
        simp only [Bool.and_eq_true] at ho
        cases hl2 : unhexL l with
        | none => simp [hl2] at hu
        | some t =>
          simp only [hl2, Option.map_some, Option.some.injEq] at hu
          subst hu
          have ih := hex_unhex n l t (by simp at hl; omega) hl2
          have la := digV_lt a
          have lb := digV_lt b
          have e : (UInt8.ofNat (16 * digV a + digV b)).toNat = 16 * digV a + digV b := by
            rw [UInt8.toNat_ofNat']; omega
          simp only [hexL, hex2, e]
          rw [show (16 * digV a + digV b) / 16 = digV a by omega, show (16 * digV a + digV b) % 16 = digV b by omega, dig_back' a ho.1, dig_back' b ho.2, ih]
          rfl
      · cases hu
theorem bytes_eq (s : ByteArray) : (⟨s.data.toList.toArray⟩ : ByteArray) = s := by
  cases s; simp
set_option maxRecDepth 100000 in
set_option maxHeartbeats 1000000 in
theorem hexes_core (s h : ByteArray) (w : World) (hg : Glob w) (hs : s.size ≤ maxLen) (hh : h.size ≤ maxLen) :
    Calls Tryd.prog 3 #[.string s, .string h] w fun e w' => e = .returned (.bool true) ∧ Below w.heap.size w w' := by
  unfold maxLen at hs hh
  have Hg := Lib.hid hg
  clear hg
  by_cases g1 : 2000 < s.size
  · go_enter Tryd.func3, Tryd.ntmps3
    go_wp2_with fail
    refine (small_any _ Hg.out).mono ?_
    rintro e w1 ⟨rfl, hb⟩
    have HB := Lib.hid hb
    clear hb
    go_wp2_with fail
    go_ret
    exact ⟨rfl, HB.out⟩
  · by_cases g2 : 2000 < h.size
    · go_enter Tryd.func3, Tryd.ntmps3
      go_wp2_with fail
      refine (small_any _ Hg.out).mono ?_
      rintro e w1 ⟨rfl, hb⟩
      have HB := Lib.hid hb
      clear hb
      go_wp2_with fail
      go_ret
      exact ⟨rfl, HB.out⟩
    · go_enter Tryd.func3, Tryd.ntmps3
      go_wp2_with fail
      refine (small_any _ Hg.out).mono ?_
      rintro e w1 ⟨rfl, hb⟩
      have HB := Lib.hid hb
      clear hb
      go_wp2_with fail
      refine (hex_any _ _ (by omega)).mono ?_
      rintro e w2 ⟨rfl, hb⟩
      have HB2 := Lib.hid (HB.out.trans (hb.mono HB.out.size))
      clear hb HB
      have hX : (⟨(hexL s.data.toList).toArray⟩ : ByteArray).size = 2 * s.size := by
        show (hexL s.data.toList).length = _
        rw [hexL_len]; simp
      have hU : unhexR (⟨(hexL s.data.toList).toArray⟩ : ByteArray).data.toList = (s.data.toList, true) := unhexR_some (unhex_hex _)
      have HX := Lib.hid hX
      have HU := Lib.hid hU
      clear hX hU
      generalize (⟨(hexL s.data.toList).toArray⟩ : ByteArray) = X at *
      go_wp2_with fail
      refine (unhex_any _ _ (by rw [HX.out]; omega)).mono ?_
      rintro e w3 ⟨rfl, hb⟩
      rw [HU.out]
      have HB3 := Lib.hid (HB2.out.trans (hb.mono HB2.out.size))
      clear hb HB2
      dsimp only
      rw [bytes_eq s]
      go_wp2_with fail
      refine (unhex_any _ _ (by omega)).mono ?_
      rintro e w4 ⟨rfl, hb⟩
      have HB4 := Lib.hid (HB3.out.trans (hb.mono HB3.out.size))
      clear hb HB3
      have hx1 : (X.size : Int) = 2 * (s.size : Int) := by have := HX.out; omega
      cases hu : unhexL h.data.toList with
      | none =>
        rw [unhexR_none hu]
        clear hu
        go_wp2_with fail
        go_ret
        exact ⟨rfl, HB4.out⟩
      | some r =>
        rw [unhexR_some hu]
        have hr := hex_unhex h.size _ r (by simp; omega) hu
        have hrl : (⟨r.toArray⟩ : ByteArray).size ≤ 1000000 := by
          have h1 := hexL_len r
          rw [hr] at h1
          simp at h1
          show r.length ≤ _
          omega
        have HRL := Lib.hid hrl
        have hback : (⟨(hexL (⟨r.toArray⟩ : ByteArray).data.toList).toArray⟩ : ByteArray) = h := by
          show (⟨(hexL r).toArray⟩ : ByteArray) = h
          rw [hr]
        have HK := Lib.hid hback
        clear hu hr hrl hback
        dsimp only
        generalize (⟨r.toArray⟩ : ByteArray) = R at *
        go_wp2_with fail
        refine (hex_any _ _ HRL.out).mono ?_
        rintro e w5 ⟨rfl, hb⟩
        have HB5 := Lib.hid (HB4.out.trans (hb.mono HB4.out.size))
        clear hb HB4
        rw [HK.out]
        go_wp2_with fail
        go_ret
        exact ⟨rfl, HB5.out⟩
end Go.Proofs.YtonhaoieeefglaaDoor
