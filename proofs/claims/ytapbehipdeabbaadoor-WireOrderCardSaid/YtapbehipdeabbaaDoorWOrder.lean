/- bournelaw02.WireOrder returns true for all pairs of lists of values. -/
import Derived.Test.YtapbehipdeabbaaDoorWCompare
namespace Go.Proofs.YtapbehipdeabbaaDoor
open Go.RowKit
theorem cmpT_apart {a b : ByteArray} {x y : List UInt8} (ha : a.data.toList = x) (hb : b.data.toList = y) {c : Int} (h : (c = -1 ∧ Apart x y) ∨ (c = 1 ∧ Apart y x)) :
    cmpT a b = c ∧ decide (b.data.toList <+: a.data.toList) = false ∧ decide (a.data.toList <+: b.data.toList) = false := by
  unfold cmpT
  rw [ha, hb]
  rcases h with ⟨rfl, h⟩ | ⟨rfl, h⟩
  · exact ⟨by rw [if_pos h.lt], decide_eq_false h.not_prefix.2, decide_eq_false h.not_prefix.1⟩
  · refine ⟨?_, decide_eq_false h.not_prefix.1, decide_eq_false h.not_prefix.2⟩
    rw [if_neg (fun h2 => List.lt_irrefl _ (List.lt_trans h2 h.lt)), if_pos h.lt]
set_option maxRecDepth 100000 in
set_option maxHeartbeats 8000000 in
theorem order_core (va : Value) (xs : List VV) (vb : Value) (ys : List VV) (w : World) (h0 : VArg va xs w) (l0 : (xs.length : Int) ≤ maxLen) (h1 : VArg vb ys w) (l1 : (ys.length : Int) ≤ maxLen) (hm : MLen w) :
    Calls Tryd.prog 4 #[va, vb] w fun e w' => e = .returned (.bool true) ∧ Below w.heap.size w w' := by
  obtain ⟨fs, hu, _⟩ := structV
  have HX := Lib.hid h0
  have HY := Lib.hid h1
  have HM := Lib.hid hm
  have HLx := Lib.hid l0
  have HLy := Lib.hid l1
  have hv : ∃ a c, va = .slice a xs.length c := by obtain ⟨a, c, hv, _⟩ := h0; exact ⟨a, c, hv⟩
  obtain ⟨ax, cx, rfl⟩ := hv
  have hv : ∃ a c, vb = .slice a ys.length c := by obtain ⟨a, c, hv, _⟩ := h1; exact ⟨a, c, hv⟩
  obtain ⟨ay, cy, rfl⟩ := hv
  clear h0 h1 hm
  unfold maxLen at l0 l1
  go_enter Tryd.func4, Tryd.ntmps4
  go_wp2_with fail
  refine (small_any _ HM.out).mono ?_
  rintro e w1 ⟨rfl, hb⟩
  have HB1 := Lib.hid hb
  have HX1 := Lib.hid (HX.out.below hb)
  have HY1 := Lib.hid (HY.out.below hb)
  clear hb
  go_wp2_with fail
  refine (light_any _ xs _ HX1.out HLx.out).mono ?_
  rintro e w1' ⟨b1, rfl, hlt, rfl⟩
  have HLT1 := Lib.hid hlt
  clear hlt
  go_wp2_with fail
  refine (light_any _ ys _ HY1.out HLy.out).mono ?_
  rintro e w1' ⟨b2, rfl, hlt, rfl⟩
  have HLT2 := Lib.hid hlt
  clear hlt
  cases b1 with
  | false =>
    go_wp2_with fail
    go_ret
    exact ⟨rfl, HB1.out⟩
  | true =>
    cases b2 with
    | false =>
      go_wp2_with fail
      go_ret
      exact ⟨rfl, HB1.out⟩
    | true =>
      have HL1 := Lib.hid (HLT1.out rfl)
      have HL2 := Lib.hid (HLT2.out rfl)
      clear HLT1 HLT2
      have HOx : Hid (∀ x ∈ xs, VOk x) := Lib.hid (fun x hx => by
        obtain ⟨a, c, _, h⟩ := HX.out
        obtain ⟨k, hk⟩ := List.mem_iff_getElem?.1 hx
        obtain ⟨_, _, _, _, _, ho⟩ := h k x hk
        exact ho)
      have HOy : Hid (∀ x ∈ ys, VOk x) := Lib.hid (fun x hx => by
        obtain ⟨a, c, _, h⟩ := HY.out
        obtain ⟨k, hk⟩ := List.mem_iff_getElem?.1 hx
        obtain ⟨_, _, _, _, _, ho⟩ := h k x hk
        exact ho)
      have HSx : Hid ((allL xs).length ≤ 1004000) := Lib.hid (by
        have h1 := allL_len HL1.out.2 HOx.out
        have h2 : xs.length * 50200 ≤ 20 * 50200 := Nat.mul_le_mul_right _ HL1.out.1
        omega)
      have HSy : Hid ((allL ys).length ≤ 1004000) := Lib.hid (by
        have h1 := allL_len HL2.out.2 HOy.out
        have h2 : ys.length * 50200 ≤ 20 * 50200 := Nat.mul_le_mul_right _ HL2.out.1
        omega)
      have hx20 := HL1.out.1
      have hy20 := HL2.out.1
      go_wp2_with fail
      refine (all_any _ xs _ HX1.out HL1.out (HM.out.up HB1.out)).mono ?_
      rintro e w2 ⟨rfl, hb⟩
      have HB2 := Lib.hid (HB1.out.trans (hb.mono HB1.out.size))
      have HY2 := Lib.hid (HY.out.below HB2.out)
      clear hb
      go_wp2_with fail
      refine (all_any _ ys _ HY2.out HL2.out (HM.out.up HB2.out)).mono ?_
      rintro e w3 ⟨rfl, hb⟩
      have HB3 := Lib.hid (HB2.out.trans (hb.mono HB2.out.size))
      clear hb
      have HA : Hid ((⟨(allL xs).toArray⟩ : ByteArray).data.toList = allL xs) := Lib.hid (by simp)
      have HC : Hid ((⟨(allL ys).toArray⟩ : ByteArray).data.toList = allL ys) := Lib.hid (by simp)
      have HsA : Hid ((⟨(allL xs).toArray⟩ : ByteArray).size ≤ 1000000000) := Lib.hid (Nat.le_trans HSx.out (by omega))
      have HsC : Hid ((⟨(allL ys).toArray⟩ : ByteArray).size ≤ 1000000000) := Lib.hid (Nat.le_trans HSy.out (by omega))
      generalize (⟨(allL xs).toArray⟩ : ByteArray) = sa at *
      generalize (⟨(allL ys).toArray⟩ : ByteArray) = sb at *
      go_wp2_with fail
      go_loopw [10] (fun iv wr => ∃ k : Nat, k ≤ xs.length ∧ k ≤ ys.length ∧ iv = .int .i64 k ∧ allL (xs.take k) = allL (ys.take k) ∧ Below w.heap.size w wr) (fun iv _ => xs.length - (intOf iv).toNat)
      case atStart => exact ⟨0, by omega, by omega, rfl, by simp, HB3.out⟩
      case round =>
        obtain ⟨k, hkx, hky, rfl, ht, hB⟩ := hrel
        have HT := Lib.hid ht
        have HBw := Lib.hid hB
        clear ht hB HX1 HY1 HY2 HB1 HB2 HB3
        by_cases hlx : k < xs.length
        · by_cases hly : k < ys.length
          · have H1 : Hid (xs[k]? = some xs[k]) := Lib.hid (List.getElem?_eq_getElem hlx)
            have H2 : Hid (ys[k]? = some ys[k]) := Lib.hid (List.getElem?_eq_getElem hly)
            obtain ⟨a2, c2, he, hel⟩ := HX.out
            obtain ⟨b, o, ha, hb, hat, hok⟩ := hel k _ H1.out
            simp only [Value.slice.injEq] at he
            obtain ⟨rfl, _, rfl⟩ := he
            subst ha
            clear hel
            obtain ⟨a2, c2, he, hel⟩ := HY.out
            obtain ⟨b', o', ha, hb', hat', hok'⟩ := hel k _ H2.out
            simp only [Value.slice.injEq] at he
            obtain ⟨rfl, _, rfl⟩ := he
            subst ha
            clear hel
            have HAx := Lib.hid hat
            have HAy := Lib.hid hat'
            have HKx := Lib.hid hok
            have HKy := Lib.hid hok'
            have HLb := Lib.hid hb
            have HLb' := Lib.hid hb'
            clear hok hok' hb hb'
            generalize xs[k] = x at *
            generalize ys[k] = y at *
            have c0 : wr.cell? ⟨b, o + k * 5, none⟩ = some (.int .i64 x.kind) := by
              obtain ⟨_, _, h, _⟩ := hat.below HBw.out HLb.out
              exact h
            have c0' : wr.cell? ⟨b', o' + k * 5, none⟩ = some (.int .i64 y.kind) := by
              obtain ⟨_, _, h, _⟩ := hat'.below HBw.out HLb'.out
              exact h
            obtain ⟨r, hr⟩ : ∃ r, r = k4 x := ⟨_, rfl⟩
            obtain ⟨r', hr'⟩ : ∃ r', r' = k4 y := ⟨_, rfl⟩
            have hk1 : bits BinOp.and IntKind.i64 x.kind 3 = r := by rw [i64_and3, hr]; rfl
            have hk2 : bits BinOp.and IntKind.i64 y.kind 3 = r' := by rw [i64_and3, hr']; rfl
            have HR := Lib.hid hr
            have HR' := Lib.hid hr'
            clear hat hat' hr hr'
            by_cases hrr : r = r'
            · have HK : Hid (k4 x = k4 y) := Lib.hid (by rw [← HR.out, ← HR'.out, hrr])
              subst hrr
              clear HR HR'
              go_wp2_with fail
              go_quiet (fail)
              obtain ⟨wq, hwq⟩ : ∃ wq, wq = wr.drewN nq := ⟨_, rfl⟩
              have HBq : Hid (Below w.heap.size w wq.drew) := Lib.hid (by rw [hwq]; exact (below_drewN HBw.out).drew)
              rw [← hwq]
              clear hwq c0 c0' HBw
              obtain ⟨vl, vt, hrg, c5, c6⟩ := HAx.out.range
              obtain ⟨vl', vt', hrg', c5', c6'⟩ := HAy.out.range
              have HRg := Lib.hid (rangeAt_below hrg HBq.out HLb.out)
              have HRg' := Lib.hid (rangeAt_below hrg' HBq.out HLb'.out)
              have HC5 := Lib.hid c5
              have HC6 := Lib.hid c6
              have HC5' := Lib.hid c5'
              have HC6' := Lib.hid c6'
              clear hrg hrg' c5 c6 c5' c6' HAx HAy HLb HLb'
              go_wp2_with fail
              refine wp_region_still_tail 8 (by kernel_rfl) (by kernel_rfl) ?_
              simp only [List.take_succ_cons, List.take_zero, List.drop_succ_cons, List.drop_zero]
              change wpStill _ _ wq.drew (fun a' => wpList _ _ _ _ a' wq.drew) _ _
              generalize wq.drew = W at *
              still_step
              still_step
              still_step
              refine wpStill_load_mid rfl 28 _ rfl b (o + k * 5) rfl [.int .i64 x.kind, .int .i64 x.n, .string x.s, vl, vt] _ HRg.out hu rfl sizeV ?_
              still_step
              still_step
              still_step
              refine wpStill_load_mid rfl 28 _ rfl b' (o' + k * 5) rfl [.int .i64 y.kind, .int .i64 y.n, .string y.s, vl', vt'] _ HRg'.out hu rfl sizeV ?_
              refine wpStill_nil ?_
              go_wp2_with fail
              refine (compare_any x y vl vt vl' vt' _ (HC5.out.below HBq.out (Nat.le_refl _)) (HC6.out.below HBq.out (Nat.le_refl _)) (HC5'.out.below HBq.out (Nat.le_refl _)) (HC6'.out.below HBq.out (Nat.le_refl _)) HKx.out HKy.out).mono ?_
              rintro e w4 ⟨rfl, hb4⟩
              have HB4 := Lib.hid (HBq.out.trans (hb4.mono HBq.out.size))
              have HS := Lib.hid (says_val HKx.out HKy.out HK.out)
              clear hb4
              generalize cmpV x y = c at *
              by_cases hc : c = 0
              · subst hc
                have HE : Hid (encV x = encV y) := Lib.hid (by
                  rcases HS.out with ⟨h, _⟩ | ⟨h, _⟩ | ⟨_, h⟩
                  · omega
                  · omega
                  · exact h)
                go_wp2_with fail
                go_roundw
                case rel => exact ⟨k + 1, by omega, by omega, by go_num, all_next H1.out H2.out HT.out HE.out, HB4.out⟩
                case measure => simp [intOf]; omega
              · have hc0 : (c != 0) = true := bne_iff_ne.2 hc
                have HF := Lib.hid (cmpT_apart HA.out HC.out (all_first H1.out H2.out HT.out HS.out hc))
                clear hc
                go_wp2_with fail
                refine (cmptext_any _ _ _).mono ?_
                rintro e w5 ⟨rfl, rfl⟩
                rw [HF.out.1]
                go_wp2_with fail
                refine (begins_any _ _ _ HsA.out).mono ?_
                rintro e w5 ⟨rfl, rfl⟩
                rw [HF.out.2.1]
                go_wp2_with fail
                refine (begins_any _ _ _ HsC.out).mono ?_
                rintro e w5 ⟨rfl, rfl⟩
                rw [HF.out.2.2]
                go_wp2_with fail
                go_ret
                exact ⟨rfl, HB4.out⟩
            · have hne : (r != r') = true := bne_iff_ne.2 hrr
              clear hrr
              go_wp2_with fail
              go_quiet (fail)
              go_wp2_with fail
              go_ret
              exact ⟨rfl, below_drewN HBw.out⟩
          · have HP : Hid (decide (sb.data.toList <+: sa.data.toList) = true) := Lib.hid (by
              rw [HA.out, HC.out]
              have e : k = ys.length := by omega
              have := HT.out
              rw [e] at this
              exact decide_eq_true (all_prefix (by omega) this.symm))
            go_wp2_with fail
            refine (begins_any _ _ _ HsA.out).mono ?_
            rintro e w5 ⟨rfl, rfl⟩
            rw [HP.out]
            go_wp2_with fail
            go_ret
            exact ⟨rfl, HBw.out⟩
        · have HP : Hid (decide (sa.data.toList <+: sb.data.toList) = true) := Lib.hid (by
            rw [HA.out, HC.out]
            have e : k = xs.length := by omega
            have := HT.out
            rw [e] at this
            exact decide_eq_true (all_prefix (by omega) this))
          go_wp2_with fail
          refine (begins_any _ _ _ HsC.out).mono ?_
          rintro e w5 ⟨rfl, rfl⟩
          rw [HP.out]
          go_wp2_with fail
          go_ret
          exact ⟨rfl, HBw.out⟩
end Go.Proofs.YtapbehipdeabbaaDoor
