/- bournelaw02.WireReads returns true for every string and all calls. -/
import Derived.Test.YtapbehipdeabbaaDoorWOnly
import Derived.Test.YtapbehipdeabbaaDoorWRefD
import Derived.Test.YtapbehipdeabbaaDoorWSame
import Derived.Deep.DeepCutAuto
import Derived.Deep.CutBlock
namespace Go.Proofs.YtapbehipdeabbaaDoor
open Go.RowKit
theorem left_of_rd {g : Nat} {st : RSt} {w : World} (h : RdAt g st w) : leftOf st ≤ 1000000 := by
  obtain ⟨rest, bad, _, hl, rfl⟩ := h
  cases bad with
  | true => exact Nat.zero_le _
  | false => simpa [leftOf] using hl
set_option maxRecDepth 100000 in
set_option maxHeartbeats 4000000 in
theorem reads_core (s : ByteArray) (v : Value) (cs : List UInt8) (w : World) (hs : s.size ≤ maxLen) (h : CArg encU8 v cs w) (hl : (cs.length : Int) ≤ maxLen) (hm : MLen w) :
    Calls Tryd.prog 5 #[.string s, v] w fun e w' => e = .returned (.bool true) ∧ Below w.heap.size w w' := by
  unfold maxLen at hs hl
  have HM := Lib.hid hm
  obtain ⟨a, c, rfl, hcell⟩ := h
  have HC := Lib.hid hcell
  clear hcell hm
  by_cases g1 : 1000 < s.size
  · go_enter Tryd.func5, Tryd.ntmps5
    go_wp2_with fail
    refine (small_any _ HM.out).mono ?_
    rintro e w1 ⟨rfl, hb⟩
    have HB := Lib.hid hb
    clear hb
    go_wp2_with fail
    go_ret
    exact ⟨rfl, HB.out⟩
  · by_cases g2 : 30 < cs.length
    · go_enter Tryd.func5, Tryd.ntmps5
      go_wp2_with fail
      refine (small_any _ HM.out).mono ?_
      rintro e w1 ⟨rfl, hb⟩
      have HB := Lib.hid hb
      clear hb
      go_wp2_with fail
      go_ret
      exact ⟨rfl, HB.out⟩
    · go_enter Tryd.func5, Tryd.ntmps5
      go_wp2_with fail
      refine (small_any _ HM.out).mono ?_
      rintro e w1 ⟨rfl, hb⟩
      have HB := Lib.hid hb
      have hsz := hb.size
      clear hb
      go_wp2_with fail
      refine (open_any s _ (by omega)).mono ?_
      rintro e w2 ⟨rfl, hr2, hb⟩
      obtain ⟨g, hg⟩ : ∃ g, g = w1.heap.size := ⟨_, rfl⟩
      rw [← hg] at hr2 hsz ⊢
      have HR2 := Lib.hid hr2
      have hglt := hr2.lt
      have HB2 := Lib.hid (HB.out.trans (hb.mono HB.out.size))
      clear hr2 hb hg
      go_wp2_with fail
      refine (qopen_any s _ (by omega)).mono ?_
      rintro e w3 ⟨rfl, hq3, hb⟩
      obtain ⟨q, hq⟩ : ∃ q, q = w2.heap.size := ⟨_, rfl⟩
      have HR3 := Lib.hid (HR2.out.below hb hglt)
      have HB3 := Lib.hid (HB2.out.trans (hb.mono HB2.out.size))
      rw [← hq] at hq3 hglt ⊢
      have HQ3 := Lib.hid hq3
      clear hq3 hb hq
      have HST0 : Hid (leftOf (some s.data.toList) ≤ 1000000) := Lib.hid (left_of_rd HR3.out)
      go_wp2_with fail
      go_loopg [8] cs.length (fun m s8 wr => ∃ (k : Nat) (st : RSt), k ≤ cs.length ∧ cs.length - k ≤ m ∧ s8 = .int .i64 k ∧ RdAt g st wr ∧ QAt q st wr ∧ Below w.heap.size w wr)
      case atStart => exact ⟨0, _, by omega, by omega, rfl, HR3.out, HQ3.out, HB3.out⟩
      case round =>
        obtain ⟨k, st, hk, hkm, rfl, hrd, hqd, hB⟩ := hrel
        clear HR3 HQ3 HB3 HST0
        have HR := Lib.hid hrd
        have HQ := Lib.hid hqd
        have HBw := Lib.hid hB
        have HST := Lib.hid (left_of_rd hrd)
        clear hrd hqd hB
        by_cases hlt : k < cs.length
        · have H1 : Hid (cs[k]? = some cs[k]) := Lib.hid (List.getElem?_eq_getElem hlt)
          obtain ⟨p, rfl, h2, h3⟩ := HC.out k _ H1.out
          have hc := (HBw.out.cell h2).trans h3
          unfold encU8 at hc
          clear h2 h3
          generalize cs[k] = x at *
          have hx := x.toNat_lt
          obtain ⟨r, hr⟩ : ∃ r, x.toNat % 5 = r := ⟨_, rfl⟩
          have hr5 : r < 5 := by omega
          have hr1 : ((x.toNat : Int)).tmod 5 = (r : Int) := by
            rw [Int.tmod_eq_emod_of_nonneg (by omega)]
            omega
          have hr2 : (x.toNat : Int) % 5 = (r : Int) := by omega
          clear hr
          go_upto_block 2 with (fail)
          go_cut [9] (fun sv wx => ∃ st : RSt, sv = .bool true ∧ RdAt g st wx ∧ QAt q st wx ∧ Below w.heap.size w wx)
          case first =>
            by_cases h0 : r = 0
            · have t0 : ((r : Int) == 0) = true := beq_iff_eq.2 (by omega)
              clear h0
              go_wp2_with fail
              refine (rdNum_any g st _ HR.out).mono ?_
              rintro e w3 ⟨rfl, hr3, hg3⟩
              have HR3 := Lib.hid hr3
              have HQ3 := Lib.hid (HQ.out.grown hg3 (fun e => by cases e; omega))
              have HB3 := Lib.hid (HBw.out.grown hg3 HBw.out.size (fun k e => by cases e; exact hsz))
              clear hr3 hg3
              go_wp2_with fail
              refine (qNum_any q st _ HQ3.out).mono ?_
              rintro e w4 ⟨rfl, hq4, hg4⟩
              have HQ4 := Lib.hid hq4
              have HR4 := Lib.hid (HR3.out.grown hg4 (fun e => by cases e; omega))
              have HB4 := Lib.hid (HB3.out.grown hg4 HB3.out.size (fun k e => by cases e; omega))
              clear hq4 hg4
              go_wp2_with fail
              go_meet
              exact ⟨_, by first | rfl | simp, HR4.out, HQ4.out, HB4.out⟩
            · have t0 : ((r : Int) == 0) = false := beq_eq_false_iff_ne.2 (by omega)
              by_cases h1 : r = 1
              · have t1 : ((r : Int) == 1) = true := beq_iff_eq.2 (by omega)
                clear h1
                go_wp2_with fail
                refine (rdInt_any g st _ HR.out).mono ?_
                rintro e w3 ⟨rfl, hr3, hg3⟩
                have HR3 := Lib.hid hr3
                have HQ3 := Lib.hid (HQ.out.grown hg3 (fun e => by cases e; omega))
                have HB3 := Lib.hid (HBw.out.grown hg3 HBw.out.size (fun k e => by cases e; exact hsz))
                clear hr3 hg3
                go_wp2_with fail
                refine (qInt_any q st _ HQ3.out).mono ?_
                rintro e w4 ⟨rfl, hq4, hg4⟩
                have HQ4 := Lib.hid hq4
                have HR4 := Lib.hid (HR3.out.grown hg4 (fun e => by cases e; omega))
                have HB4 := Lib.hid (HB3.out.grown hg4 HB3.out.size (fun k e => by cases e; omega))
                clear hq4 hg4
                go_wp2_with fail
                go_meet
                exact ⟨_, by first | rfl | simp, HR4.out, HQ4.out, HB4.out⟩
              · have t1 : ((r : Int) == 1) = false := beq_eq_false_iff_ne.2 (by omega)
                by_cases h2 : r = 2
                · have t2 : ((r : Int) == 2) = true := beq_iff_eq.2 (by omega)
                  clear h2
                  go_wp2_with fail
                  refine (rdText_any g st _ HR.out).mono ?_
                  rintro e w3 ⟨rfl, hr3, hg3⟩
                  have HR3 := Lib.hid hr3
                  have HQ3 := Lib.hid (HQ.out.grown hg3 (fun e => by cases e; omega))
                  have HB3 := Lib.hid (HBw.out.grown hg3 HBw.out.size (fun k e => by cases e; exact hsz))
                  clear hr3 hg3
                  go_wp2_with fail
                  refine (qText_any q st _ HQ3.out).mono ?_
                  rintro e w4 ⟨rfl, hq4, hg4⟩
                  have HQ4 := Lib.hid hq4
                  have HR4 := Lib.hid (HR3.out.grown hg4 (fun e => by cases e; omega))
                  have HB4 := Lib.hid (HB3.out.grown hg4 HB3.out.size (fun k e => by cases e; omega))
                  clear hq4 hg4
                  go_wp2_with fail
                  go_meet
                  exact ⟨_, by first | rfl | simp, HR4.out, HQ4.out, HB4.out⟩
                · have t2 : ((r : Int) == 2) = false := beq_eq_false_iff_ne.2 (by omega)
                  by_cases h3 : r = 3
                  · have t3 : ((r : Int) == 3) = true := beq_iff_eq.2 (by omega)
                    clear h3
                    go_wp2_with fail
                    refine (rdNums_any g st _ HR.out).mono ?_
                    rintro e w3 ⟨v3, rfl, hown3, hr3, hg3⟩
                    have HR3 := Lib.hid hr3
                    have HQ3 := Lib.hid (HQ.out.grown hg3 (fun e => by cases e; omega))
                    have HB3 := Lib.hid (HBw.out.grown hg3 HBw.out.size (fun k e => by cases e; exact hsz))
                    have HO3 := Lib.hid hown3
                    have hqlt := HQ.out.lt
                    clear hr3 hg3 hown3
                    go_wp2_with fail
                    refine (qNums_any q st _ HQ3.out).mono ?_
                    rintro e w4 ⟨v4, rfl, hown4, hq4, hg4⟩
                    have HQ4 := Lib.hid hq4
                    have HR4 := Lib.hid (HR3.out.grown hg4 (fun e => by cases e; omega))
                    have HB4 := Lib.hid (HB3.out.grown hg4 HB3.out.size (fun k e => by cases e; omega))
                    have hown3' := owns_grown HO3.out hg4 hqlt
                    have HC3 := Lib.hid (CArg.of_owns rfl hown3')
                    have HC4 := Lib.hid (CArg.of_owns rfl hown4)
                    have HLn : Hid ((opNums st).1.length ≤ 1000010) := Lib.hid (by
                      have h1 := HST.out
                      cases st with
                      | none => exact Nat.zero_le _
                      | some cur =>
                        have h2 := (ok_nums cur).1.len
                        have h3 := (joinL_len intL (opNums (some cur)).1).1
                        have h4 : (numsL (opNums (some cur)).1).length = (joinL intL (opNums (some cur)).1).length := rfl
                        simp only [leftOf] at h1
                        omega)
                    clear hq4 hg4 hown4 hown3'
                    go_wp2_with fail
                    refine (sameNums_any _ _ _ _ _ HC3.out HC4.out HLn.out HLn.out).mono ?_
                    rintro e w5 ⟨rfl, nd, rfl⟩
                    have HR5 : Hid (RdAt g (opNums st).2 (w4.drewN nd)) := Lib.hid (HR4.out.grown (grown_drawn _ _ none) (by simp))
                    have HQ5 : Hid (QAt q (opNums st).2 (w4.drewN nd)) := Lib.hid (HQ4.out.grown (grown_drawn _ _ none) (by simp))
                    have HB5 : Hid (Below w.heap.size w (w4.drewN nd)) := Lib.hid (below_drewN HB4.out)
                    go_wp2_with fail
                    go_meet
                    exact ⟨_, by simp, HR5.out, HQ5.out, HB5.out⟩
                  · have t3 : ((r : Int) == 3) = false := beq_eq_false_iff_ne.2 (by omega)
                    go_wp2_with fail
                    refine (rdTexts_any g st _ HR.out).mono ?_
                    rintro e w3 ⟨v3, rfl, hown3, hr3, hg3⟩
                    have HR3 := Lib.hid hr3
                    have HQ3 := Lib.hid (HQ.out.grown hg3 (fun e => by cases e; omega))
                    have HB3 := Lib.hid (HBw.out.grown hg3 HBw.out.size (fun k e => by cases e; exact hsz))
                    have HO3 := Lib.hid hown3
                    have hqlt := HQ.out.lt
                    clear hr3 hg3 hown3
                    go_wp2_with fail
                    refine (qTexts_any q st _ HQ3.out).mono ?_
                    rintro e w4 ⟨v4, rfl, hown4, hq4, hg4⟩
                    have HQ4 := Lib.hid hq4
                    have HR4 := Lib.hid (HR3.out.grown hg4 (fun e => by cases e; omega))
                    have HB4 := Lib.hid (HB3.out.grown hg4 HB3.out.size (fun k e => by cases e; omega))
                    have hown3' := owns_grown HO3.out hg4 hqlt
                    rw [map_encT] at hown3' hown4
                    have HC3 := Lib.hid (CArg.of_owns (List.length_map _) hown3')
                    have HC4 := Lib.hid (CArg.of_owns (List.length_map _) hown4)
                    have HLn : Hid ((opTexts st).1.length ≤ 1000010) := Lib.hid (by
                      have h1 := HST.out
                      cases st with
                      | none => exact Nat.zero_le _
                      | some cur =>
                        have h2 := (ok_texts cur).len
                        have h3 := (joinL_len textL (opTexts (some cur)).1).1
                        have h4 : (textsL (opTexts (some cur)).1).length = (joinL textL (opTexts (some cur)).1).length := rfl
                        simp only [leftOf] at h1
                        omega)
                    clear hq4 hg4 hown4 hown3'
                    go_wp2_with fail
                    refine (sameTexts_any _ _ _ _ _ HC3.out HC4.out (by rw [List.length_map]; exact HLn.out) (by rw [List.length_map]; exact HLn.out)).mono ?_
                    rintro e w5 ⟨rfl, nd, rfl⟩
                    have HR5 : Hid (RdAt g (opTexts st).2 (w4.drewN nd)) := Lib.hid (HR4.out.grown (grown_drawn _ _ none) (by simp))
                    have HQ5 : Hid (QAt q (opTexts st).2 (w4.drewN nd)) := Lib.hid (HQ4.out.grown (grown_drawn _ _ none) (by simp))
                    have HB5 : Hid (Below w.heap.size w (w4.drewN nd)) := Lib.hid (below_drewN HB4.out)
                    go_wp2_with fail
                    go_meet
                    exact ⟨_, by simp, HR5.out, HQ5.out, HB5.out⟩
          case rest =>
            obtain ⟨st2, rfl, hrd, hqd, hB⟩ := hcut
            have HR4 := Lib.hid hrd
            have HQ4 := Lib.hid hqd
            have HB4 := Lib.hid hB
            clear hrd hqd hB HR HQ HBw hc hr1 hr2 hr5 hx
            go_wp2_with fail
            refine (rdLeft_any g st2 _ HR4.out).mono ?_
            rintro e w' ⟨rfl, rfl⟩
            go_wp2_with fail
            refine (qLeft_any q st2 _ HQ4.out).mono ?_
            rintro e w' ⟨rfl, rfl⟩
            go_wp2_with fail
            refine (rdDone_any g st2 _ HR4.out).mono ?_
            rintro e w' ⟨rfl, rfl⟩
            go_wp2_with fail
            refine (qDone_any q st2 _ HQ4.out).mono ?_
            rintro e w' ⟨rfl, rfl⟩
            go_wp2_with fail
            go_roundg (cs.length - (k + 1))
            case measure => omega
            case rel => exact ⟨k + 1, st2, by omega, Nat.le_refl _, by go_num, HR4.out, HQ4.out, HB4.out⟩
        · obtain rfl : k = cs.length := by omega
          clear hlt hk
          go_wp2_with fail
          go_ret
          exact ⟨rfl, HBw.out⟩
end Go.Proofs.YtapbehipdeabbaaDoor
