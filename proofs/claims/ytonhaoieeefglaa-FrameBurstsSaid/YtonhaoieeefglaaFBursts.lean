/- bournelaw23.FrameBursts returns true for all payloads, places and patterns of bits. -/
import Derived.Test.YtonhaoieeefglaaFInv
namespace Go.Proofs.Ytonhaoieeefglaa
open Go.RowKit
theorem tmod_cases (a : Int) (n : Nat) (hn : 0 < n) : (∃ b : Nat, b < n ∧ a.tmod (n : Int) = (b : Int)) ∨ (∃ b : Nat, b < n ∧ a.tmod (n : Int) = (b : Int) - (n : Int) ∧ a.tmod (n : Int) < 0) := by
  have h1 := Int.tmod_lt_of_pos a (show (0 : Int) < (n : Int) by omega)
  have h2 : -(n : Int) < a.tmod (n : Int) := by
    have := Int.lt_tmod_of_pos a (show (0 : Int) < (n : Int) by omega)
    omega
  by_cases h : 0 ≤ a.tmod (n : Int)
  · exact Or.inl ⟨(a.tmod (n : Int)).toNat, by omega, by omega⟩
  · exact Or.inr ⟨(a.tmod (n : Int) + n).toNat, by omega, by omega, by omega⟩
set_option maxRecDepth 100000 in
set_option maxHeartbeats 4000000 in
theorem bursts_core (s : ByteArray) (pos bits' : Int) (w : World) (hs : s.size ≤ maxLen) (hpos : (Lit.int .i64 pos).wf = true) (hbits : (Lit.int .u16 bits').wf = true) :
    Calls Try.prog 7 #[.string s, .int .i64 pos, .int .u16 bits'] w fun e w' => e = .returned (.bool true) ∧ Below w.heap.size w w' := by
  unfold maxLen at hs
  have hp : -9223372036854775808 ≤ pos ∧ pos ≤ 9223372036854775807 := by simpa [Lit.wf, IntKind.min, IntKind.max, IntKind.signed, IntKind.bits] using hpos
  have hb16 : 0 ≤ bits' ∧ bits' ≤ 65535 := by simpa [Lit.wf, IntKind.min, IntKind.max, IntKind.signed, IntKind.bits] using hbits
  obtain ⟨hb0, hb1⟩ := hb16
  have HPOS := Lib.hid hp
  clear hpos hbits hp
  by_cases g1 : 900 < s.size
  · go_enter Try.func7, Try.ntmps7
    go_wp2_with fail
    refine (small_any _).mono ?_
    rintro e w1 ⟨rfl, hb⟩
    have HB := Lib.hid hb
    clear hb
    go_wp2_with fail
    go_ret
    exact ⟨rfl, HB.out⟩
  · by_cases g2 : bits' = 0
    · subst g2
      go_enter Try.func7, Try.ntmps7
      go_wp2_with fail
      refine (small_any _).mono ?_
      rintro e w1 ⟨rfl, hb⟩
      have HB := Lib.hid hb
      clear hb
      go_wp2_with fail
      go_ret
      exact ⟨rfl, HB.out⟩
    · have g3 : (bits' == 0) = false := beq_eq_false_iff_ne.2 g2
      clear g2
      go_enter Try.func7, Try.ntmps7
      go_wp2_with fail
      refine (small_any _).mono ?_
      rintro e w1 ⟨rfl, hb⟩
      have HB := Lib.hid hb
      clear hb
      go_wp2_with fail
      refine (body_any s _ (by omega)).mono ?_
      rintro e w2 ⟨rfl, hb⟩
      have HB2 := Lib.hid (HB.out.trans (hb.mono HB.out.size))
      clear hb HB
      have hsz : (⟨(bodyL s.data.toList).toArray⟩ : ByteArray).size = s.size + 2 := by
        show (bodyL s.data.toList).length = s.size + 2
        simp [bodyL, crcB]
      have HBD : Hid ((⟨(bodyL s.data.toList).toArray⟩ : ByteArray).data.toList = bodyL s.data.toList) := rfl
      generalize (⟨(bodyL s.data.toList).toArray⟩ : ByteArray) = Y at *
      have hY1 : 2 ≤ Y.size := by omega
      have hY2 : Y.size ≤ 902 := by omega
      clear hsz
      have kc := fun (w : World) => run_bytes_of_string (P := Try.prog) w 9 35 5 Y undS undBs undB
      go_upto_region 5 with (fail)
      have hI : FInv w2 Y.size Y.data.toList (w2.alloc (.cells (bytesRow Y (grownCap w2 Y.size 0 5)) 5 ((bytesRow Y (grownCap w2 Y.size 0 5)).size, (bytesRow Y (grownCap w2 Y.size 0 5)).size + 1))).drew := by
        refine ⟨⟨_, _, heap_alloc_new _ _, ?_, ?_⟩, by simp, ((Below.refl w2.heap.size w2).alloc (Nat.le_refl _) _).drew⟩
        · simp [bytesRow]
        · intro j b hb
          obtain ⟨h1, h2⟩ := List.getElem?_eq_some_iff.1 hb
          rw [bytesRow_at Y _ j (by simpa using h1), ← h2]
          rfl
      have HI := Lib.hid hI
      clear hI kc
      generalize (w2.alloc (.cells (bytesRow Y (grownCap w2 Y.size 0 5)) 5 ((bytesRow Y (grownCap w2 Y.size 0 5)).size, (bytesRow Y (grownCap w2 Y.size 0 5)).size + 1))).drew = W0 at *
      generalize grownCap w2 Y.size 0 5 = C at *
      have hT0 := tmod_cases pos (8 * Y.size) (by omega)
      rw [show ((8 * Y.size : Nat) : Int) = 8 * (Y.size : Int) by omega] at hT0
      have HT := Lib.hid hT0
      clear hT0
      go_upto_region 6 with (fail)
      rcases HT.out with ⟨b, hb, e⟩ | ⟨b, hb, e, hneg⟩
      all_goals
        rw [e]
        clear e HT
        go_wp2_with fail
        try clear hneg
        generalize ((b : Int) - 8 * (Y.size : Int)) = z
        go_loopw [9, 10] (fun ch iv wr => ∃ (k : Nat) (t : List UInt8) (q : Nat) (cb : Bool), k ≤ 16 ∧ iv = .int .i64 k ∧ q < 2 ^ k ∧ ch = .bool cb ∧ cb = decide (q ≠ 0) ∧ numL t = numL Y.data.toList ^^^ (2 ^ b * q) ∧ FInv w2 Y.size t wr) (fun _ iv _ => 16 - (intOf iv).toNat)
        case atStart => exact ⟨0, Y.data.toList, 0, false, by omega, rfl, by simp, rfl, by simp, by simp, HI.out⟩
        case round =>
          obtain ⟨k, t, q, cb, hk, rfl, hq, rfl, hcb, hn, hI⟩ := hrel
          have HCB := Lib.hid hcb
          have HN := Lib.hid hn
          have HQ := Lib.hid hq
          have HI := Lib.hid hI
          clear hn hq hI hcb
          by_cases hlt : k < 16
          · by_cases h8 : b + k < 8 * Y.size
            · have hd : decide ((b : Int) + (k : Int) < 8 * (Y.size : Int)) = true := by simp; omega
              have hj : (b + k) / 8 < Y.size := by omega
              obtain ⟨c, hbj⟩ : ∃ c, t[(b + k) / 8]? = some c := ⟨_, List.getElem?_eq_getElem (by rw [HI.out.len]; exact hj)⟩
              have hc := HI.out.cell hbj
              have hf := HI.out.free hj
              have HBJ := Lib.hid hbj
              clear hbj
              have x1 : (0 : Int) ≤ ((b : Int) + (k : Int)) / 8 := by omega
              have x2 : ((b : Int) + (k : Int)) / 8 < (Y.size : Int) := by omega
              have x3 : (((b : Int) + (k : Int)) / 8).toNat = (b + k) / 8 := by omega
              have x6 : (0 : Int) ≤ ((b : Int) + (k : Int)) % 8 := by omega
              have x7 : ((b : Int) + (k : Int)) % 8 < 8 := by omega
              have x8 : (((b : Int) + (k : Int)) % 8).toNat = (b + k) % 8 := by omega
              have HX := Lib.hid (flip_byte c ((b + k) % 8) (Nat.mod_lt _ (by decide)))
              have HS := Lib.hid (HI.out.set hj (c ^^^ UInt8.ofNat (2 ^ ((b + k) % 8))))
              have HL := Lib.hid (numL_set t ((b + k) / 8) c (UInt8.ofNat (2 ^ ((b + k) % 8))) HBJ.out)
              go_wp2_with fail
              · go_roundw
                case rel =>
                  refine ⟨k + 1, t.set ((b + k) / 8) (c ^^^ UInt8.ofNat (2 ^ ((b + k) % 8))), q ^^^ 2 ^ k, true, by omega, by go_num, ?_, rfl, ?_, ?_, ?_⟩
                  · exact Nat.xor_lt_two_pow (Nat.lt_trans HQ.out (Nat.pow_lt_pow_right (by decide) (Nat.lt_succ_self k))) (Nat.pow_lt_pow_right (by decide) (Nat.lt_succ_self k))
                  · exact (decide_eq_true (xor_ne_zero HQ.out)).symm
                  · exact HL.out.trans (flip_num _ _ _ _ _ HN.out)
                  · have hx := HX.out
                    rw [IntKind.wrap_u8] at hx
                    rw [hx]; exact HS.out
                case measure => simp [intOf]; omega
              · go_roundw
                case rel => exact ⟨k + 1, t, q, cb, by omega, by go_num, Nat.lt_trans HQ.out (Nat.pow_lt_pow_right (by decide) (Nat.lt_succ_self k)), rfl, HCB.out, HN.out, HI.out⟩
                case measure => simp [intOf]; omega
            · have hd : decide ((b : Int) + (k : Int) < 8 * (Y.size : Int)) = false := by simp; omega
              go_wp2_with fail
              all_goals
                go_roundw
                case rel => exact ⟨k + 1, t, q, cb, by omega, by go_num, Nat.lt_trans HQ.out (Nat.pow_lt_pow_right (by decide) (Nat.lt_succ_self k)), rfl, HCB.out, HN.out, HI.out⟩
                case measure => simp [intOf]; omega
          · obtain rfl : k = 16 := by omega
            clear hlt hk
            have hc := conv_row HI.out C
            have hyl : Y.data.toList.length = Y.size := by simp
            have hlb : (bodyL s.data.toList).length = Y.size := by rw [← HBD.out]; exact hyl
            have HOK : Hid (bodyOk t = !cb) := Lib.hid (by
              rw [HCB.out, burst_ok (p := s.data.toList) (t := t) (bit := b) (q := q) (by rw [hlb]; exact HI.out.len) HQ.out (by rw [hlb]; omega) (by rw [← HBD.out]; exact HN.out)]
              by_cases h0 : q = 0 <;> simp [h0])
            have hT : (⟨t.toArray⟩ : ByteArray).size = Y.size := HI.out.len
            have HTd : Hid ((⟨t.toArray⟩ : ByteArray).data.toList = t) := rfl
            have HBI := Lib.hid (HB2.out.trans (HI.out.below.mono HB2.out.size))
            clear hyl hlb HN HQ HCB HI
            generalize (⟨t.toArray⟩ : ByteArray) = T at *
            go_wp2_with fail
            refine (resc_any T _ (by omega)).mono ?_
            rintro e w4 ⟨rfl, hb⟩
            have HB4 := Lib.hid (HBI.out.trans (hb.mono HBI.out.size))
            clear hb
            rw [HTd.out]
            have hE : (⟨(escL t).toArray⟩ : ByteArray).size ≤ 2000 := by
              show (escL t).length ≤ 2000
              have h1 := escL_len t
              have h2 : t.length = T.size := by rw [← HTd.out]; simp
              omega
            have HEd : Hid ((⟨(escL t).toArray⟩ : ByteArray).data.toList = escL t) := rfl
            generalize (⟨(escL t).toArray⟩ : ByteArray) = E at *
            go_wp2_with fail
            refine (decode_any _ _ ?hsz).mono ?_
            case hsz =>
              rw [ByteArray.size_append, ByteArray.size_append]
              show 1 + E.size + 1 ≤ 100000
              omega
            rintro e w5 ⟨v, rfl, hown, hb⟩
            have hst : ((⟨#[126]⟩ : ByteArray) ++ E ++ (⟨#[126]⟩ : ByteArray)).data.toList = 126 :: (escL t ++ [126]) := by
              rw [toList_append, toList_append, HEd.out]
              rfl
            have hdl : (decL ((⟨#[126]⟩ : ByteArray) ++ E ++ (⟨#[126]⟩ : ByteArray)).data.toList).length = if cb then 0 else 1 := by
              rw [hst, dec_one (by have h2 : t.length = T.size := by (rw [← HTd.out]; simp)
                                   omega), HOK.out]
              cases cb <;> rfl
            obtain ⟨a, c, rfl, _⟩ := SlOf.of_owns rfl hown
            have hll : (strB (decL ((⟨#[126]⟩ : ByteArray) ++ E ++ (⟨#[126]⟩ : ByteArray)).data.toList)).length = if cb then 0 else 1 := (List.length_map _).trans hdl
            rw [hll]
            have HB5 := Lib.hid (HB4.out.trans (hb.mono HB4.out.size))
            clear hown hb hdl hll hst
            cases cb
            all_goals
              go_wp2_with fail
              go_ret
              exact ⟨rfl, HB5.out⟩
end Go.Proofs.Ytonhaoieeefglaa
