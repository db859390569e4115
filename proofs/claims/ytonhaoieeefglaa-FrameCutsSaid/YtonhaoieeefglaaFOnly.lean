/- bournelaw23.FrameOnly returns true for all streams. -/
import Derived.Test.YtonhaoieeefglaaFFlags
namespace Go.Proofs.Ytonhaoieeefglaa
open Go.RowKit
theorem esc_unesc : ∀ (n : Nat) (l b : List UInt8), l.length ≤ n → ¬ (126 : UInt8) ∈ l → unescL l = some b → escL b = l
  | _, [], b, _, _, h => by simp [unescL] at h; subst h; rfl
  | n + 1, c :: l, b, hn, hno, h => by
    simp only [List.mem_cons, not_or] at hno
    by_cases hc : c = 125
    · subst hc
      cases l with
      | nil => simp [unescL] at h
      | cons d l =>
        have hno2 := hno.2
        simp only [List.mem_cons, not_or] at hno2
        by_cases h1 : d = 94
        · subst h1
          rw [unesc_flag] at h
          obtain ⟨y, hy, rfl⟩ := Option.map_eq_some_iff.1 h
          have := esc_unesc n l y (by simp at hn; omega) hno2.2 hy
          simp [escL, escB, this]
        · by_cases h2 : d = 93
          · subst h2
            rw [unesc_esc] at h
            obtain ⟨y, hy, rfl⟩ := Option.map_eq_some_iff.1 h
            have := esc_unesc n l y (by simp at hn; omega) hno2.2 hy
            simp [escL, escB, this]
          · rw [unesc_bad h1 h2] at h; cases h
    · rw [unesc_plain hc] at h
      obtain ⟨y, hy, rfl⟩ := Option.map_eq_some_iff.1 h
      have := esc_unesc n l y (by simp at hn; omega) hno.2 hy
      have h126 : ¬ c = 126 := fun e => hno.1 e.symm
      simp [escL, escB, h126, hc, this]
theorem body_of_ok {b : List UInt8} (h : bodyOk b = true) : bodyL (b.take (b.length - 2)) = b := by
  unfold bodyOk at h
  rw [Bool.and_eq_true, decide_eq_true_iff, decide_eq_true_iff] at h
  obtain ⟨h1, h2⟩ := h
  obtain ⟨m, hm⟩ : ∃ m, b.length = m + 2 := ⟨b.length - 2, by omega⟩
  have e1 : b.length - 2 = m := by omega
  have e2 : b.length - 1 = m + 1 := by omega
  rw [e1, e2] at h2
  rw [e1]
  have g1 : b[m]? = some (b[m]?.getD 0) := getD_at (by omega)
  have g2 : b[m + 1]? = some (b[m + 1]?.getD 0) := getD_at (by omega)
  have hd : b.drop m = [b[m]?.getD 0, b[m + 1]?.getD 0] := by
    rw [drop_at g1, drop_at g2, List.drop_of_length_le (by omega)]
  have l0 := (b[m]?.getD 0).toNat_lt
  have l1 := (b[m + 1]?.getD 0).toNat_lt
  unfold bodyL crcB
  rw [h2, show ((b[m]?.getD 0).toNat + 256 * (b[m + 1]?.getD 0).toNat) % 256 = (b[m]?.getD 0).toNat by omega, show ((b[m]?.getD 0).toNat + 256 * (b[m + 1]?.getD 0).toNat) / 256 = (b[m + 1]?.getD 0).toNat by omega,
    UInt8.ofNat_toNat, UInt8.ofNat_toNat, ← hd, List.take_append_drop]
theorem pay_enc {l p : List UInt8} (hno : ¬ (126 : UInt8) ∈ l) (h : payOpt l = some p) : encL p = 126 :: (l ++ [126]) ∧ p.length ≤ 2048 := by
  unfold payOpt at h
  split at h
  · cases h
  · rename_i hlen
    split at h
    · cases h
    · rename_i b hb
      split at h
      · rename_i hok
        obtain rfl := Option.some.inj h
        have hbl := unesc_len _ l b (Nat.le_refl _) hb
        refine ⟨?_, by rw [List.length_take]; omega⟩
        unfold encL
        rw [body_of_ok hok, esc_unesc _ l b (Nat.le_refl _) hno hb, if_neg hlen]
      · cases h
/-- the frames fs occur in L one after the other, from position a on, the last byte of one may be the first of the next -/
def Fits (L : List UInt8) : Nat → List (List UInt8) → Prop
  | _, [] => True
  | a, f :: fs => ∃ q, a ≤ q ∧ q + f.length ≤ L.length ∧ (L.drop q).take f.length = f ∧ Fits L (q + f.length - 1) fs
theorem Fits.mono {L : List UInt8} : ∀ {fs : List (List UInt8)} {a a' : Nat}, Fits L a fs → a' ≤ a → Fits L a' fs
  | [], _, _, _, _ => trivial
  | _ :: _, _, _, ⟨q, h1, h2⟩, h => ⟨q, Nat.le_trans h h1, h2⟩
theorem fits_segs (L : List UInt8) : ∀ (r P cur : List UInt8), ¬ (126 : UInt8) ∈ cur → L = P ++ 126 :: (cur ++ r) → Fits L P.length (((segs cur r).filterMap payOpt).map encL)
  | [], P, cur, _, _ => by simp [segs, Fits]
  | c :: r, P, cur, hno, hL => by
    by_cases hc : c = 126
    · subst hc
      have ih := fits_segs L r (P ++ 126 :: cur) [] (by simp) (by rw [hL]; simp)
      simp only [segs, if_true, List.filterMap_cons]
      cases hp : payOpt cur with
      | none => exact ih.mono (by simp)
      | some p =>
        obtain ⟨he, _⟩ := pay_enc hno hp
        simp only [List.map_cons]
        refine ⟨P.length, Nat.le_refl _, ?_, ?_, ?_⟩
        · rw [he, hL]; simp
        · rw [he, hL, List.drop_left]
          have e : 126 :: (cur ++ 126 :: r) = (126 :: (cur ++ [126])) ++ r := by simp
          rw [e, List.take_left]
        · refine ih.mono ?_
          rw [he]; simp
    · have ih := fits_segs L r P (cur ++ [c]) (by simp only [List.mem_append, List.mem_singleton, not_or]; exact ⟨hno, fun e => hc e.symm⟩) (by rw [hL]; simp)
      simpa [segs, hc] using ih
theorem fits_str (L : List UInt8) : ∀ (r P : List UInt8), L = P ++ r → Fits L P.length (((strL r).filterMap payOpt).map encL)
  | [], P, _ => by simp [strL, Fits]
  | c :: r, P, hL => by
    by_cases hc : c = 126
    · subst hc
      simpa [strL] using fits_segs L r P [] (by simp) (by rw [hL]; simp)
    · have ih := fits_str L r (P ++ [c]) (by rw [hL]; simp)
      simp only [strL, if_neg hc]
      exact ih.mono (by simp)
theorem fits_dec (L : List UInt8) : Fits L 0 ((decL L).map encL) := fits_str L L [] rfl
theorem segs_no : ∀ (r cur : List UInt8), ¬ (126 : UInt8) ∈ cur → ∀ x ∈ segs cur r, ¬ (126 : UInt8) ∈ x
  | [], _, _, x, hx => by simp [segs] at hx
  | c :: r, cur, hno, x, hx => by
    by_cases hc : c = 126
    · subst hc
      simp only [segs, if_true, List.mem_cons] at hx
      rcases hx with rfl | hx
      · exact hno
      · exact segs_no r [] (by simp) x hx
    · simp only [segs, if_neg hc] at hx
      exact segs_no r (cur ++ [c]) (by simp only [List.mem_append, List.mem_singleton, not_or]; exact ⟨hno, fun e => hc e.symm⟩) x hx
theorem str_no : ∀ (r : List UInt8), ∀ x ∈ strL r, ¬ (126 : UInt8) ∈ x
  | [], x, hx => by simp [strL] at hx
  | c :: r, x, hx => by
    by_cases hc : c = 126
    · subst hc
      simp only [strL, if_true] at hx
      exact segs_no r [] (by simp) x hx
    · simp only [strL, if_neg hc] at hx
      exact str_no r x hx
theorem dec_mem {L p : List UInt8} (h : p ∈ decL L) : encL p ≠ [] ∧ p.length ≤ 2048 := by
  unfold decL at h
  rw [List.mem_filterMap] at h
  obtain ⟨x, hx, hp⟩ := h
  obtain ⟨h1, h2⟩ := pay_enc (str_no L x hx) hp
  exact ⟨by rw [h1]; simp, h2⟩
theorem strB_get {ls : List (List UInt8)} {k : Nat} {p : List UInt8} (h : ls[k]? = some p) : (strB ls)[k]? = some (⟨p.toArray⟩ : ByteArray) := by
  unfold strB
  rw [List.getElem?_map, h]
  rfl
theorem segs_len : ∀ (r cur : List UInt8), (segs cur r).length ≤ r.length
  | [], _ => by simp [segs]
  | c :: r, cur => by
    by_cases hc : c = 126
    · simp only [segs, if_pos hc, List.length_cons]
      have := segs_len r []
      omega
    · simp only [segs, if_neg hc, List.length_cons]
      have := segs_len r (cur ++ [c])
      omega
theorem str_len : ∀ (r : List UInt8), (strL r).length ≤ r.length
  | [] => by simp [strL]
  | c :: r => by
    by_cases hc : c = 126
    · simp only [strL, if_pos hc, List.length_cons]
      have := segs_len r []
      omega
    · simp only [strL, if_neg hc, List.length_cons]
      have := str_len r
      omega
theorem dec_len (L : List UInt8) : (decL L).length ≤ L.length := Nat.le_trans (List.length_filterMap_le _ _) (str_len L)
set_option maxRecDepth 100000 in
set_option maxHeartbeats 2000000 in
theorem only_core (s : ByteArray) (w : World) (hs : s.size ≤ maxLen) :
    Calls Try.prog 6 #[.string s] w fun e w' => e = .returned (.bool true) ∧ Below w.heap.size w w' := by
  unfold maxLen at hs
  have hlen : s.data.toList.length = s.size := by simp
  have HL := Lib.hid hlen
  clear hlen
  by_cases g1 : 6000 < s.size
  · go_enter Try.func6, Try.ntmps6
    go_wp2_with fail
    refine (small_any _).mono ?_
    rintro e w1 ⟨rfl, hb⟩
    have HB := Lib.hid hb
    clear hb
    go_wp2_with fail
    go_ret
    exact ⟨rfl, HB.out⟩
  · go_enter Try.func6, Try.ntmps6
    go_wp2_with fail
    refine (small_any _).mono ?_
    rintro e w1 ⟨rfl, hb⟩
    have HB := Lib.hid hb
    clear hb
    go_wp2_with fail
    refine (decode_any s _ (by omega)).mono ?_
    rintro e w2 ⟨v, rfl, hown, hb⟩
    have HB2 := Lib.hid (HB.out.trans (hb.mono HB.out.size))
    obtain ⟨a, c, rfl, ha⟩ := SlOf.of_owns rfl hown
    have hll : (strB (decL s.data.toList)).length = (decL s.data.toList).length := List.length_map _
    rw [hll]
    have HS : Hid (SlOf (.slice a (decL s.data.toList).length c) (strB (decL s.data.toList)) w2) := Lib.hid ⟨a, c, by rw [hll], ha⟩
    have hdl : (decL s.data.toList).length ≤ 6000 := Nat.le_trans (dec_len _) (by rw [HL.out]; omega)
    have HF := Lib.hid (fits_dec s.data.toList)
    have HM : Hid (∀ p ∈ decL s.data.toList, encL p ≠ [] ∧ p.length ≤ 2048) := Lib.hid (fun p hp => dec_mem hp)
    clear hb HB hown ha hll
    generalize decL s.data.toList = ls at *
    go_wp2_with fail
    go_loopw [6, 7] (fun av iv wr => ∃ k q : Nat, k ≤ ls.length ∧ q ≤ s.size ∧ iv = .int .i64 (k : Int) ∧ av = .int .i64 (q : Int) ∧ Fits s.data.toList q ((ls.drop k).map encL) ∧ Below w2.heap.size w2 wr) (fun _ iv _ => ls.length - (intOf iv).toNat)
    case atStart => exact ⟨0, 0, by omega, by omega, rfl, rfl, HF.out, Below.refl _ _⟩
    case round =>
      obtain ⟨k, q, hk, hq, rfl, rfl, hfit, hB⟩ := hrel
      have HFI := Lib.hid hfit
      have HBB := Lib.hid hB
      clear hfit hB HF
      by_cases hlt : k < ls.length
      · have hp : ls[k]? = some ls[k] := List.getElem?_eq_getElem hlt
        obtain ⟨hm1, hm2⟩ := HM.out ls[k] (List.getElem_mem hlt)
        have hfk := HFI.out
        rw [List.drop_eq_getElem_cons hlt, List.map_cons] at hfk
        obtain ⟨a', c', he, hS⟩ := HS.out
        obtain ⟨g, rfl, hg, hcell⟩ := hS.resolve_left (fun h => by
          have h3 : (strB ls).length = 0 := by rw [h.2.2]; rfl
          have h4 : (strB ls).length = ls.length := List.length_map _
          omega)
        simp only [Value.slice.injEq] at he
        obtain ⟨rfl, hx, rfl⟩ := he
        clear hx
        have hc1 := (HBB.out.cell (p := ⟨g, k, none⟩) hg).trans (hcell k _ (strB_get hp))
        have HP := Lib.hid hp
        clear hS hcell hp
        generalize ls[k] = p at *
        have hpl : (⟨p.toArray⟩ : ByteArray).size ≤ 2048 := hm2
        have HPd : Hid ((⟨p.toArray⟩ : ByteArray).data.toList = p) := rfl
        generalize (⟨p.toArray⟩ : ByteArray) = X at *
        go_wp2_with fail
        refine (encode_any X _ (by omega)).mono ?_
        rintro e w3 ⟨rfl, hb⟩
        have HB3 := Lib.hid (HBB.out.trans (hb.mono HBB.out.size))
        rw [HPd.out]
        have hFl : (⟨(encL p).toArray⟩ : ByteArray).size ≤ 2050 := encL_len _
        have hF1 : 1 ≤ (⟨(encL p).toArray⟩ : ByteArray).size := by
          show 1 ≤ (encL p).length
          cases h : encL p with
          | nil => exact absurd h hm1
          | cons _ _ => simp
        have hFe : (⟨(encL p).toArray⟩ : ByteArray).toList.isEmpty = false := by
          rw [ByteArray.toList_eq]
          show (encL p).isEmpty = false
          cases h : encL p with
          | nil => exact absurd h hm1
          | cons _ _ => rfl
        have HFd : Hid ((⟨(encL p).toArray⟩ : ByteArray).data.toList = encL p) := rfl
        obtain ⟨r, hr1, hr2, hr3, hr4⟩ := hfk
        have hsz : (encL p).length = (⟨(encL p).toArray⟩ : ByteArray).size := rfl
        rw [hsz] at hr2 hr3 hr4
        have HR4 := Lib.hid hr4
        have HR3 := Lib.hid hr3
        rw [HL.out] at hr2
        clear hb hm1 hm2 hr4 hr3 hsz HPd hc1 hpl
        generalize (⟨(encL p).toArray⟩ : ByteArray) = F at *
        go_wp2_with fail
        go_loop [6] (fun av => ∃ t : Nat, q ≤ t ∧ t ≤ r ∧ av = .int .i64 (t : Int)) (fun av => r + 1 - (intOf av).toNat)
        case atStart => exact ⟨q, Nat.le_refl _, hr1, rfl⟩
        case round =>
          obtain ⟨t, ht1, ht2, rfl⟩ := hrel
          have y1 : (t : Int) + (F.size : Int) ≤ (s.size : Int) := by omega
          have y2 : ((t : Int) + (F.size : Int)).toNat = t + F.size := by omega
          have y3 : (0 : Int) ≤ (t : Int) + (F.size : Int) := by omega
          have y4 : (t : Int) ≤ (t : Int) + (F.size : Int) := by omega
          by_cases hm : s.extract t (t + F.size) = F
          · have hm1 : ((s.extract t (t + F.size)).toList == F.toList) = true := by rw [hm]; simp
            have HN : Hid (Fits s.data.toList (t + F.size - 1) ((ls.drop (k + 1)).map encL)) := Lib.hid (HR4.out.mono (by omega))
            have hz : t + F.size - 1 ≤ s.size := by omega
            clear hm
            go_wp2_with fail
            go_roundw
            case rel => exact ⟨k + 1, t + F.size - 1, by omega, hz, by go_num, by go_num, by first | exact HN.out | (rw [← List.map_drop]; exact HN.out), HB3.out⟩
            case measure => simp [intOf]; omega
          · have hm1 : ((s.extract t (t + F.size)).toList == F.toList) = false := beq_eq_false_iff_ne.2 (fun e => hm (str_eq e))
            have hne : t ≠ r := fun e => hm (by
              subst e
              refine ba_eq ?_
              rw [Lib.extract_data, show t + F.size - t = F.size by omega, HR3.out, HFd.out])
            have hlt3 : t < r := by omega
            clear hm hne
            go_wp2_with fail
            go_round
            case rel => exact ⟨t + 1, by omega, by omega, by go_num⟩
            case measure => simp [intOf]; omega
      · obtain rfl : k = ls.length := by omega
        clear hlt hk
        have HE := Lib.hid (HB2.out.trans (HBB.out.mono HB2.out.size))
        go_wp2_with fail
        go_ret
        exact ⟨rfl, HE.out⟩
end Go.Proofs.Ytonhaoieeefglaa
