/- bournelaw23.FrameBack returns true for every string and every slice of strings. -/
import Derived.Test.YtonhaoieeefglaaFShort
import Derived.Test.YtonhaoieeefglaaFSmall
namespace Go.Proofs.Ytonhaoieeefglaa
open Go.RowKit
def pL (ss : List ByteArray) : List (List UInt8) := ss.map fun s => s.data.toList
theorem pL_take_snoc {ss : List ByteArray} {k : Nat} {x : ByteArray} (h : ss[k]? = some x) : pL (ss.take (k + 1)) = pL (ss.take k) ++ [x.data.toList] := by
  rw [List.take_add_one, h]
  simp [pL]
theorem mk_toList (s : ByteArray) : (⟨s.data.toList.toArray⟩ : ByteArray) = s := by cases s; simp
set_option maxRecDepth 100000 in
set_option maxHeartbeats 1000000 in
theorem back_core (b : ByteArray) (v : Value) (ss : List ByteArray) (w : World) (hs : b.size ≤ maxLen) (h : SArg v ss w) (hl : (ss.length : Int) ≤ maxLen) :
    Calls Try.prog 4 #[.string b, v] w fun e w' => e = .returned (.bool true) ∧ Below w.heap.size w w' := by
  obtain ⟨i0, hi, hz0, hz1, hz2⟩ := info_parts infoS
  have hsh := fun w => short_any v ss w (hl := hl)
  have HA := Lib.hid h
  unfold maxLen at hs hl
  obtain ⟨a, c, rfl, hcell⟩ := h
  have HC := Lib.hid hcell
  clear hcell
  by_cases g1 : (decide (ss.length ≤ 20) && decide (∀ s ∈ ss, s.size ≤ 3000)) = false
  · go_enter Try.func4, Try.ntmps4
    go_wp2_with fail
    refine (small_any _).mono ?_
    rintro e w1 ⟨rfl, hb⟩
    have HB := Lib.hid hb
    have HA1 := Lib.hid (HA.out.below hb)
    clear hb
    go_wp2_with fail
    refine (hsh _ HA1.out).mono ?_
    rintro e w2 ⟨rfl, hb⟩
    rw [g1]
    have HB2 := Lib.hid (HB.out.trans (hb.mono HB.out.size))
    clear hb
    go_wp2_with fail
    go_ret
    exact ⟨rfl, HB2.out⟩
  · by_cases g2 : 3000 < b.size
    · have g1' : (decide (ss.length ≤ 20) && decide (∀ s ∈ ss, s.size ≤ 3000)) = true := by simpa using g1
      clear g1
      go_enter Try.func4, Try.ntmps4
      go_wp2_with fail
      refine (small_any _).mono ?_
      rintro e w1 ⟨rfl, hb⟩
      have HB := Lib.hid hb
      have HA1 := Lib.hid (HA.out.below hb)
      clear hb
      go_wp2_with fail
      refine (hsh _ HA1.out).mono ?_
      rintro e w2 ⟨rfl, hb⟩
      rw [g1']
      have HB2 := Lib.hid (HB.out.trans (hb.mono HB.out.size))
      clear hb
      go_wp2_with fail
      go_ret
      exact ⟨rfl, HB2.out⟩
    · have g1' : (decide (ss.length ≤ 20) && decide (∀ s ∈ ss, s.size ≤ 3000)) = true := by simpa using g1
      clear g1
      have HG : Hid (ss.length ≤ 20 ∧ ∀ s ∈ ss, s.size ≤ 3000) := Lib.hid (by
        rw [Bool.and_eq_true, decide_eq_true_iff, decide_eq_true_iff] at g1'
        exact g1')
      have hn : ss.length ≤ 20 := HG.out.1
      go_enter Try.func4, Try.ntmps4
      go_wp2_with fail
      refine (small_any _).mono ?_
      rintro e w1 ⟨rfl, hb⟩
      have HB := Lib.hid hb
      have HA1 := Lib.hid (HA.out.below hb)
      clear hb
      go_wp2_with fail
      refine (hsh _ HA1.out).mono ?_
      rintro e w2 ⟨rfl, hb⟩
      rw [g1']
      have HB2 := Lib.hid (HB.out.trans (hb.mono HB.out.size))
      clear hb g1' hsh
      go_wp2_with fail
      go_loopw [7] (fun i wr => ∃ k : Nat, k ≤ b.size ∧ i = .int .i64 k ∧ ¬ (126 : UInt8) ∈ b.data.toList.take k ∧ wr = w2) (fun i _ => b.size - (intOf i).toNat)
      case atStart => exact ⟨0, by omega, rfl, by simp, rfl⟩
      case round =>
        obtain ⟨k, hk, rfl, ht, rfl⟩ := hrel
        have HT := Lib.hid ht
        clear ht
        by_cases hlt : k < b.size
        · have i1 := fun w => index_str b (k : Int) k rfl hlt w
          have E1 : Hid (b.data.toList[k]? = some b[k]) := by
            refine Lib.hid ?_
            rw [List.getElem?_eq_getElem (by simpa using hlt)]
            rfl
          generalize b[k] = x at *
          have lx := x.toNat_lt
          by_cases hx : x.toNat = 126
          · obtain rfl : x = 126 := UInt8.toNat_inj.1 (by rw [hx]; rfl)
            clear hx
            go_wp2_with fail
            go_ret
            exact ⟨rfl, HB2.out⟩
          · have x126 : ((x.toNat : Int) == 126) = false := beq_eq_false_iff_ne.2 (by omega)
            have HS : Hid (¬ (126 : UInt8) ∈ b.data.toList.take (k + 1)) := by
              refine Lib.hid ?_
              rw [List.take_add_one, E1.out]
              simp only [List.mem_append, Option.toList_some, List.mem_singleton, not_or]
              exact ⟨HT.out, fun e => hx (by rw [← e]; rfl)⟩
            clear hx
            go_wp2_with fail
            go_roundw
            case rel => exact ⟨k + 1, by omega, by go_num, HS.out, by trivial⟩
            case measure => simp [intOf]; omega
        · obtain rfl : k = b.size := by omega
          have HN : Hid (¬ (126 : UInt8) ∈ b.data.toList) := by
            refine Lib.hid ?_
            have := HT.out
            rwa [List.take_of_length_le (by simp)] at this
          clear hlt hk HT
          go_wp2_with fail
          go_loopw [8, 9, 10] (fun sv wv iv wr => ∃ (k : Nat) (S : ByteArray), k ≤ ss.length ∧ iv = .int .i64 k ∧ sv = .string S ∧ S.data.toList = b.data.toList ++ frL (pL (ss.take k)) ∧ S.size ≤ 60000 ∧
            wr.ownsRow w.heap.size 9 1 wv (keptL (pL (ss.take k))).length (strV (keptL (pL (ss.take k)))) ∧ Below w.heap.size w wr) (fun _ _ iv _ => ss.length - (intOf iv).toNat)
          case atStart => exact ⟨0, b, by omega, rfl, rfl, by simp [pL, frL], by omega, World.ownsRow_nil _ _ _ _, HB2.out⟩
          case round =>
            obtain ⟨k, S, hk, rfl, rfl, hS, hS6, hown, hB⟩ := hrel
            have HS := Lib.hid hS
            have HO := Lib.hid hown
            have HBW := Lib.hid hB
            clear hS hown hB
            by_cases hlt : k < ss.length
            · have H1 : Hid (ss[k]? = some ss[k]) := Lib.hid (List.getElem?_eq_getElem hlt)
              have hx3 : ss[k].size ≤ 3000 := HG.out.2 _ (List.getElem_mem hlt)
              obtain ⟨p, rfl, h2, h3⟩ := HC.out k _ H1.out
              have hc := (HBW.out.cell h2).trans h3
              have HP := Lib.hid h2
              have HQ := Lib.hid h3
              clear h2 h3
              generalize ss[k] = x at *
              have HKS := Lib.hid (keptL_snoc (pL (ss.take k)) x.data.toList)
              have HFS := Lib.hid (frL_snoc (pL (ss.take k)) x.data.toList)
              have HPS := Lib.hid (pL_take_snoc H1.out)
              have hxl : x.data.toList.length = x.size := by simp
              have hSn : Hid (∀ F : ByteArray, F.data.toList = encL x.data.toList → (S ++ F).data.toList = b.data.toList ++ frL (pL (ss.take (k + 1))) ∧ (S ++ F).size ≤ 60000) := by
                refine Lib.hid fun F hF => ?_
                have e : (S ++ F).data.toList = b.data.toList ++ frL (pL (ss.take (k + 1))) := by
                  rw [toList_append, hF, HS.out, HPS.out, HFS.out, List.append_assoc]
                refine ⟨e, ?_⟩
                have h1 : (S ++ F).data.toList.length = (S ++ F).size := by simp
                have h2 := frL_len (pL (ss.take (k + 1)))
                have h3 : (pL (ss.take (k + 1))).length ≤ k + 1 := by simp [pL]; omega
                have h4 : b.data.toList.length = b.size := by simp
                rw [← h1, e, List.length_append]
                omega
              rcases encL_cases x.data.toList with ⟨hE, hxl2⟩ | ⟨_, _, _, _, hE, hxl2⟩
              · have x1 : decide ((x.size : Int) ≤ 1000) = false := by simp; omega
                rw [hxl] at hxl2
                clear hxl
                go_wp2_with fail
                refine (encode_any x _ (by omega)).mono ?_
                rintro e w3 ⟨rfl, hb⟩
                have hg : wr.grownBy w3 none := ⟨hb.os, hb.tape, hb.output, hb.size, fun k hk _ => hb.block k hk⟩
                have HO1 := Lib.hid (HO.out.kept hg (by cases u9.ownBlock <;> simp))
                have HB1 := Lib.hid (HBW.out.trans (hb.mono HBW.out.size))
                have hc1 := (HB1.out.cell HP.out).trans HQ.out
                clear hg hb
                rw [hE]
                go_wp2_with fail
                go_roundw
                case rel =>
                  have := hSn.out ⟨#[]⟩ (by rw [hE])
                  refine ⟨k + 1, _, by omega, by go_num, rfl, this.1, this.2, ?_, HB1.out⟩
                  rw [HPS.out, HKS.out, if_pos hE, List.append_nil]
                  exact HO1.out
                case measure => simp [intOf]; omega
              · have x1 : decide (2046 < (x.size : Int)) = false := by simp; omega
                clear hxl
                go_wp2_with fail
                refine (encode_any x _ (by omega)).mono ?_
                rintro e w3 ⟨rfl, hb⟩
                have hg : wr.grownBy w3 none := ⟨hb.os, hb.tape, hb.output, hb.size, fun k hk _ => hb.block k hk⟩
                have HO1 := Lib.hid (HO.out.kept hg (by cases u9.ownBlock <;> simp))
                have HB1 := Lib.hid (HBW.out.trans (hb.mono HBW.out.size))
                have hc1 := (HB1.out.cell HP.out).trans HQ.out
                clear hg hb
                have HF : Hid ((⟨(encL x.data.toList).toArray⟩ : ByteArray).data.toList = encL x.data.toList) := rfl
                have HKN := Lib.hid (Nat.le_trans (List.length_filter_le (fun q => !(encL q == [])) (pL (ss.take k))) (show (pL (ss.take k)).length ≤ 20 by simp [pL]; omega))
                have hF0 : ((⟨(encL x.data.toList).toArray⟩ : ByteArray).toList == (⟨#[]⟩ : ByteArray).toList) = false := beq_eq_false_iff_ne.2 (fun e => hE (by
                  rw [ByteArray.toList_eq, ByteArray.toList_eq] at e
                  exact e))
                have hF1 : ((⟨(encL x.data.toList).toArray⟩ : ByteArray).toList == []) = false := beq_eq_false_iff_ne.2 (fun e => hE (by
                  rw [ByteArray.toList_eq] at e
                  exact e))
                have hF2 : (⟨(encL x.data.toList).toArray⟩ : ByteArray).size ≤ 2050 := encL_len x.data.toList
                generalize (⟨(encL x.data.toList).toArray⟩ : ByteArray) = F at *
                go_wp2_with (at_builtin; refine Hid.out ?_)
                refine Lib.hid ?_
                refine wpList_append_own _ rfl _ _ 23 rfl w.heap.size 9 i0 (.string ⟨#[]⟩) 1 16 undSs hi hz0 hz1 hz2 rfl (by decide) _ _ _ rfl (HO1.out.alloc _) ⟨w3.heap.size, 0, none⟩ 1 1 [.string x] rfl (by rfl) (cell_one_new _ _ _) (by simp [Value.oneCell']) (by unfold maxLen; have := HKN.out; unfold keptL; omega) (by have := HKN.out; unfold keptL; omega) (by have := HB1.out.size; simpa using Nat.le_succ_of_le this) ?_
                intro v' w4 hown1 hgr1 _
                have HO2 : Hid (w4.ownsRow w.heap.size 9 1 v' (keptL (pL (ss.take (k + 1)))).length (strV (keptL (pL (ss.take (k + 1)))))) := by
                  refine Lib.hid ?_
                  rw [HPS.out, HKS.out, if_neg hE, strV_append, List.length_append]
                  have e : strV [x.data.toList] = [.string x] := by
                    unfold strV
                    rw [List.map_cons, List.map_nil, mk_toList]
                  rw [e]
                  exact hown1
                have HB2' : Hid (Below w.heap.size w w4) := Lib.hid ((HB1.out.alloc HB1.out.size _).grown hgr1 (by have := HB1.out.size; simpa using Nat.le_succ_of_le this) (fun q e => HO1.out.block_ge e))
                have hc2 := (HB2'.out.cell HP.out).trans HQ.out
                clear hown1 hgr1 hc1 hc
                go_wp2_with fail
                go_roundw
                case rel =>
                  have := hSn.out F HF.out
                  exact ⟨k + 1, _, by omega, by go_num, rfl, this.1, this.2, HO2.out, HB2'.out⟩
                case measure => simp [intOf]; omega
            · obtain rfl : k = ss.length := by omega
              rw [List.take_length] at HS HO
              have HD : Hid (decL S.data.toList = keptL (pL ss)) := Lib.hid (by rw [HS.out]; exact back_dec _ HN.out _)
              have HR : Hid (restL S.data.toList = if keptL (pL ss) = [] then [] else [126]) := Lib.hid (by rw [HS.out]; exact back_rest _ HN.out _)
              have hkl : (keptL (pL ss)).length ≤ 20 := Nat.le_trans (List.length_filter_le _ _) (by simp [pL]; omega)
              have HW := Lib.hid (SlOf.of_owns rfl HO.out)
              clear hlt hk HS HO HC HA
              generalize keptL (pL ss) = ks at *
              have hks : (strB ks).length = ks.length := List.length_map _
              have HR2 : Hid (restL S.data.toList = [] ∧ ks = [] ∨ restL S.data.toList = [126] ∧ ((ks.length : Int) == 0) = false) := Lib.hid (by
                rw [HR.out]
                by_cases hk0 : ks = []
                · exact .inl ⟨if_pos hk0, hk0⟩
                · exact .inr ⟨if_neg hk0, beq_eq_false_iff_ne.2 (fun e => hk0 (List.eq_nil_of_length_eq_zero (by omega)))⟩)
              have hkl2 : (strB ks).length ≤ 1000000 := by rw [hks]; omega
              obtain ⟨a9, c9, he9, _⟩ := HW.out
              rw [hks] at he9
              subst he9
              rcases HR2.out with ⟨hR, rfl⟩ | ⟨hR, hk0⟩
              all_goals
                go_wp2_with fail
                refine (decode_any S _ (by omega)).mono ?_
                rintro e w5 ⟨v5, rfl, hown5, hb⟩
                rw [HD.out] at hown5
                rw [hR]
                have HB5 := Lib.hid (HBW.out.trans (hb.mono HBW.out.size))
                have HS1 := Lib.hid (SlOf.of_owns rfl hown5)
                have HS2 := Lib.hid (HW.out.below hb (Nat.le_refl _))
                clear hown5 hb
                go_wp2_with fail
                refine (same_any v5 _ _ _ _ HS1.out HS2.out hkl2 hkl2).mono ?_
                rintro e w6 ⟨rfl, q, rfl⟩
                rw [decide_eq_true rfl]
                have HB6 : Hid (Below w.heap.size w (w5.drewN q)) := Lib.hid (below_drewN HB5.out)
                generalize w5.drewN q = w6 at *
                go_wp2_with fail
                go_ret
                exact ⟨rfl, HB6.out⟩
end Go.Proofs.Ytonhaoieeefglaa
