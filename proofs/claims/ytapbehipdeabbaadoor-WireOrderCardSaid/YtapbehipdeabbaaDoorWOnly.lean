/- bournelaw02.WireOnly returns true for every string and all calls. -/
import Derived.Test.YtapbehipdeabbaaDoorWSmall
import Derived.Deep.DeepCutAuto
import Derived.Deep.CutBlock
namespace Go.Proofs.YtapbehipdeabbaaDoor
open Go.RowKit
/-- the bytes of a list of strings -/
def toB (l : List UInt8) : ByteArray := ⟨l.toArray⟩
theorem map_encT (l : List (List UInt8)) : l.map encT = (l.map toB).map Value.string := by
  rw [List.map_map]
  rfl
theorem joinL_toB (l : List (List UInt8)) : joinL textB (l.map toB) = textsL l := by
  unfold textsL joinL
  rw [List.flatMap_map]
  rfl
theorem OpOk.len2 {cur E : List UInt8} {st : RSt} (h : OpOk cur E st) : E.length ≤ cur.length ∨ E.length ≤ 2 := by
  rcases h with ⟨r, _, h⟩ | ⟨_, _, h⟩
  · exact Or.inl (by rw [h, List.length_append]; omega)
  · exact Or.inr h
theorem owns_zero {w : World} {base : Nat} {e : TypeId} {size : Nat} {v : Value} {xs : List Value} (h : w.ownsRow base e size v 0 xs) : ∃ a c, v = .slice a 0 c := by
  rcases h.2 with ⟨rfl, _⟩ | ⟨g, cap, cur, rfl, _⟩
  · exact ⟨_, _, rfl⟩
  · exact ⟨_, _, rfl⟩
theorem toList_append (a b : ByteArray) : (a ++ b).data.toList = a.data.toList ++ b.data.toList := by
  rw [ByteArray.data_append, Array.toList_append]
set_option maxRecDepth 100000 in
set_option maxHeartbeats 4000000 in
theorem only_core (s : ByteArray) (v : Value) (cs : List UInt8) (w : World) (hs : s.size ≤ maxLen) (h : CArg encU8 v cs w) (hl : (cs.length : Int) ≤ maxLen) (hm : MLen w) :
    Calls Tryd.prog 7 #[.string s, v] w fun e w' => e = .returned (.bool true) ∧ Below w.heap.size w w' := by
  unfold maxLen at hs hl
  have HM := Lib.hid hm
  obtain ⟨a, c, rfl, hcell⟩ := h
  have HC := Lib.hid hcell
  clear hcell hm
  by_cases g1 : 1000 < s.size
  · go_enter Tryd.func7, Tryd.ntmps7
    go_wp2_with fail
    refine (small_any _ HM.out).mono ?_
    rintro e w1 ⟨rfl, hb⟩
    have HB := Lib.hid hb
    clear hb
    go_wp2_with fail
    go_ret
    exact ⟨rfl, HB.out⟩
  · by_cases g2 : 30 < cs.length
    · go_enter Tryd.func7, Tryd.ntmps7
      go_wp2_with fail
      refine (small_any _ HM.out).mono ?_
      rintro e w1 ⟨rfl, hb⟩
      have HB := Lib.hid hb
      clear hb
      go_wp2_with fail
      go_ret
      exact ⟨rfl, HB.out⟩
    · go_enter Tryd.func7, Tryd.ntmps7
      go_wp2_with fail
      refine (small_any _ HM.out).mono ?_
      rintro e w1 ⟨rfl, hb⟩
      have HB := Lib.hid hb
      have hsz := hb.size
      clear hb
      go_wp2_with fail
      refine (open_any s _ (by omega)).mono ?_
      rintro e w2 ⟨rfl, hr2, hb⟩
      obtain ⟨g, hg⟩ : ∃ g, g = w1.heap.size := ⟨_, rfl⟩
      rw [← hg] at hr2 hsz ⊢
      have HR2 := Lib.hid hr2
      have HB2 := Lib.hid (HB.out.trans (hb.mono HB.out.size))
      clear hr2 hb hg
      go_wp2_with fail
      go_loopg [7, 8] cs.length (fun m s7 s8 wr => ∃ (k : Nat) (G : ByteArray) (cur : List UInt8), k ≤ cs.length ∧ cs.length - k ≤ m ∧ s8 = .int .i64 k ∧ s7 = .string G ∧ s.data.toList = G.data.toList ++ cur ∧ RdAt g (some cur) wr ∧ Below w.heap.size w wr)
      case atStart => exact ⟨0, ⟨#[]⟩, s.data.toList, by omega, by omega, rfl, rfl, rfl, HR2.out, HB2.out⟩
      case round =>
        obtain ⟨k, G, cur, hk, hkm, rfl, rfl, hsg, hrd, hB⟩ := hrel
        clear HR2
        have HS := Lib.hid hsg
        have HR := Lib.hid hrd
        have HBw := Lib.hid hB
        have hGl : G.size + cur.length = s.size := by
          have := congrArg List.length hsg
          simp at this
          omega
        clear hsg hrd hB
        by_cases hlt : k < cs.length
        · have H1 : Hid (cs[k]? = some cs[k]) := Lib.hid (List.getElem?_eq_getElem hlt)
          obtain ⟨p, rfl, h2, h3⟩ := HC.out k _ H1.out
          have hc := (HBw.out.cell h2).trans h3
          unfold encU8 at hc
          clear h2 h3
          generalize cs[k] = x at *
          have hx := x.toNat_lt
          obtain ⟨r, hr⟩ : ∃ r, x.toNat % 5 = r := ⟨_, rfl⟩
          have hr5 : r < 5 := by omega
          have hr1 : ((x.toNat : Int)).tmod 5 = (r : Int) := by
            rw [Int.tmod_eq_emod_of_nonneg (by omega)]
            omega
          have hr2 : (x.toNat : Int) % 5 = (r : Int) := by omega
          clear hr
          go_upto_block 2 with (fail)
          go_cut [7] (fun gv wx => ∃ (E : ByteArray) (st : RSt), gv = .string (G ++ E) ∧ OpOk cur E.data.toList st ∧ RdAt g st wx ∧ Below w.heap.size w wx)
          case first =>
            by_cases h0 : r = 0
            · have t0 : ((r : Int) == 0) = true := beq_iff_eq.2 (by omega)
              clear h0
              go_wp2_with fail
              refine (rdNum_any g (some cur) _ HR.out).mono ?_
              rintro e w3 ⟨rfl, hr3, hg3⟩
              have HR3 := Lib.hid hr3
              have HB3 := Lib.hid (HBw.out.grown hg3 HBw.out.size (fun k e => by cases e; exact hsz))
              clear hr3 hg3
              have HOK := Lib.hid ((ok_num cur).1)
              have HI6 := Lib.hid (ok_num cur).2
              generalize opNum (some cur) = q at *
              obtain ⟨y, st⟩ := q
              go_wp2_with fail
              refine (num_any _ _ HI6.out).mono ?_
              rintro e w4 ⟨rfl, hb⟩
              have HR4 := Lib.hid (HR3.out.below hb (by obtain ⟨_, _, h, _⟩ := HR3.out; exact blk_lt h))
              have HB4 := Lib.hid (HB3.out.trans (hb.mono HB3.out.size))
              have hEl : (⟨(numL y).toArray⟩ : ByteArray).size ≤ 2000 := by
                have := HOK.out.len
                show (numL y).length ≤ 2000
                omega
              clear hb
              go_wp2_with fail
              go_meet
              exact ⟨_, st, rfl, HOK.out, HR4.out, HB4.out⟩
            · have t0 : ((r : Int) == 0) = false := beq_eq_false_iff_ne.2 (by omega)
              by_cases h1 : r = 1
              · have t1 : ((r : Int) == 1) = true := beq_iff_eq.2 (by omega)
                clear h1
                go_wp2_with fail
                refine (rdInt_any g (some cur) _ HR.out).mono ?_
                rintro e w3 ⟨rfl, hr3, hg3⟩
                have HR3 := Lib.hid hr3
                have HB3 := Lib.hid (HBw.out.grown hg3 HBw.out.size (fun k e => by cases e; exact hsz))
                clear hr3 hg3
                have HOK := Lib.hid ((ok_int cur).1)
                have HI6 := Lib.hid (ok_int cur).2
                generalize opInt (some cur) = q at *
                obtain ⟨y, st⟩ := q
                go_wp2_with fail
                refine (int_any _ _ HI6.out).mono ?_
                rintro e w4 ⟨rfl, hb⟩
                have HR4 := Lib.hid (HR3.out.below hb (by obtain ⟨_, _, h, _⟩ := HR3.out; exact blk_lt h))
                have HB4 := Lib.hid (HB3.out.trans (hb.mono HB3.out.size))
                have hEl : (⟨(intL y).toArray⟩ : ByteArray).size ≤ 2000 := by
                  have := HOK.out.len
                  show (intL y).length ≤ 2000
                  omega
                clear hb
                go_wp2_with fail
                go_meet
                exact ⟨_, st, rfl, HOK.out, HR4.out, HB4.out⟩
              · have t1 : ((r : Int) == 1) = false := beq_eq_false_iff_ne.2 (by omega)
                by_cases h2 : r = 2
                · have t2 : ((r : Int) == 2) = true := beq_iff_eq.2 (by omega)
                  clear h2
                  go_wp2_with fail
                  refine (rdText_any g (some cur) _ HR.out).mono ?_
                  rintro e w3 ⟨rfl, hr3, hg3⟩
                  have HR3 := Lib.hid hr3
                  have HB3 := Lib.hid (HBw.out.grown hg3 HBw.out.size (fun k e => by cases e; exact hsz))
                  clear hr3 hg3
                  have HOK := Lib.hid (ok_text cur)
                  have HSz : Hid ((⟨(opText (some cur)).1.toArray⟩ : ByteArray).size ≤ 1000000) := Lib.hid (by
                    have h1 := textL_ge (opText (some cur)).1
                    have h2 := HOK.out.len
                    show (opText (some cur)).1.length ≤ 1000000
                    omega)
                  generalize opText (some cur) = q at *
                  obtain ⟨y, st⟩ := q
                  go_wp2_with fail
                  refine (text_any _ _ HSz.out (HM.out.up HB3.out)).mono ?_
                  rintro e w4 ⟨rfl, hb⟩
                  have HR4 := Lib.hid (HR3.out.below hb (by obtain ⟨_, _, h, _⟩ := HR3.out; exact blk_lt h))
                  have HB4 := Lib.hid (HB3.out.trans (hb.mono HB3.out.size))
                  have hEl : (⟨(textL y).toArray⟩ : ByteArray).size ≤ 2000 := by
                    have := HOK.out.len
                    show (textL y).length ≤ 2000
                    omega
                  clear hb
                  go_wp2_with fail
                  go_meet
                  exact ⟨_, st, rfl, HOK.out, HR4.out, HB4.out⟩
                · have t2 : ((r : Int) == 2) = false := beq_eq_false_iff_ne.2 (by omega)
                  by_cases h3 : r = 3
                  · have t3 : ((r : Int) == 3) = true := beq_iff_eq.2 (by omega)
                    clear h3
                    go_wp2_with fail
                    refine (rdNums_any g (some cur) _ HR.out).mono ?_
                    rintro e w3 ⟨v3, rfl, hown3, hr3, hg3⟩
                    have HR3 := Lib.hid hr3
                    have HB3 := Lib.hid (HBw.out.grown hg3 HBw.out.size (fun k e => by cases e; exact hsz))
                    have HCA := Lib.hid (CArg.of_owns rfl hown3)
                    clear hr3 hg3 hown3
                    have HOK := Lib.hid ((ok_nums cur).1)
                    have HI6 := Lib.hid (ok_nums cur).2
                    generalize opNums (some cur) = q at *
                    obtain ⟨y, st⟩ := q
                    have HLn : Hid (y.length ≤ 1000) := Lib.hid (by
                      have h1 := (joinL_len intL y).1
                      have h2 := HOK.out.len2
                      simp only at h2
                      have h3 : (numsL y).length = (joinL intL y).length := rfl
                      omega)
                    go_wp2_with fail
                    refine (nums_any _ _ _ HCA.out HLn.out HI6.out).mono ?_
                    rintro e w4 ⟨rfl, hb⟩
                    have HR4 := Lib.hid (HR3.out.below hb (by obtain ⟨_, _, h, _⟩ := HR3.out; exact blk_lt h))
                    have HB4 := Lib.hid (HB3.out.trans (hb.mono HB3.out.size))
                    have hEl : (⟨(joinL intL y).toArray⟩ : ByteArray).size ≤ 2000 := by
                      have := HOK.out.len
                      show (joinL intL y).length ≤ 2000
                      have h3 : (numsL y).length = (joinL intL y).length := rfl
                      omega
                    clear hb
                    go_wp2_with fail
                    go_meet
                    exact ⟨_, st, rfl, HOK.out, HR4.out, HB4.out⟩
                  · have t3 : ((r : Int) == 3) = false := beq_eq_false_iff_ne.2 (by omega)
                    go_wp2_with fail
                    refine (rdTexts_any g (some cur) _ HR.out).mono ?_
                    rintro e w3 ⟨v3, rfl, hown3, hr3, hg3⟩
                    have HR3 := Lib.hid hr3
                    have HB3 := Lib.hid (HBw.out.grown hg3 HBw.out.size (fun k e => by cases e; exact hsz))
                    rw [map_encT] at hown3
                    have HCA := Lib.hid (CArg.of_owns (List.length_map _) hown3)
                    clear hr3 hg3 hown3
                    have HOK := Lib.hid (ok_texts cur)
                    have HI6 : Hid True := Lib.hid trivial
                    generalize opTexts (some cur) = q at *
                    obtain ⟨y, st⟩ := q
                    have HLn : Hid (y.length ≤ 1000) := Lib.hid (by
                      have h1 := (joinL_len textL y).1
                      have h2 := HOK.out.len2
                      simp only at h2
                      have h3 : (textsL y).length = (joinL textL y).length := rfl
                      omega)
                    go_wp2_with fail
                    refine (texts_any _ _ _ HCA.out (by rw [List.length_map]; exact HLn.out) (fun b hb => by
                      obtain ⟨z, hz, rfl⟩ := List.mem_map.1 hb
                      have h1 := (joinL_len textL y).2 z hz
                      have h2 := textL_ge z
                      have h3 := HOK.out.len
                      have h4 : (textsL y).length = (joinL textL y).length := rfl
                      show z.length ≤ 100000
                      omega) (HM.out.up HB3.out)).mono ?_
                    rintro e w4 ⟨rfl, hb⟩
                    have HR4 := Lib.hid (HR3.out.below hb (by obtain ⟨_, _, h, _⟩ := HR3.out; exact blk_lt h))
                    have HB4 := Lib.hid (HB3.out.trans (hb.mono HB3.out.size))
                    have hEl : (⟨(joinL textB (y.map toB)).toArray⟩ : ByteArray).size ≤ 2000 := by
                      have := HOK.out.len
                      show (joinL textB (y.map toB)).length ≤ 2000
                      rw [joinL_toB]
                      omega
                    clear hb
                    go_wp2_with fail
                    go_meet
                    exact ⟨_, st, rfl, by rw [show (ByteArray.mk (joinL textB (y.map toB)).toArray).data.toList = joinL textB (y.map toB) from rfl, joinL_toB]; exact HOK.out, HR4.out, HB4.out⟩
          case rest =>
            obtain ⟨E, st, rfl, hok, hrd, hB⟩ := hcut
            have HR3 := Lib.hid hrd
            have HB3 := Lib.hid hB
            have hEl : E.size ≤ 2000 := by
              have := hok.len
              simp at this
              omega
            obtain ⟨G2, hG2⟩ : ∃ G2, G2 = G ++ E := ⟨_, rfl⟩
            have hG2s : G2.size = G.size + E.size := by rw [hG2, ByteArray.size_append]
            have hG2l : G2.data.toList = G.data.toList ++ E.data.toList := by rw [hG2, toList_append]
            have hGs : G.size ≤ s.size := by omega
            rw [← hG2]
            clear hrd hB hG2 HR HBw hc hr1 hr2 hr5 hx
            rcases hok with ⟨rr, rfl, hcur⟩ | ⟨rfl, hne, hle⟩
            · have hGl2 : G2.size + rr.length = s.size := by
                have := congrArg List.length hcur
                simp at this
                omega
              have HS2 : Hid (s.data.toList = G2.data.toList ++ rr) := Lib.hid (by rw [HS.out, hcur, hG2l, List.append_assoc])
              have HPre : Hid (decide (G2.data.toList <+: s.data.toList) = true) := Lib.hid (decide_eq_true ⟨rr, HS2.out.symm⟩)
              have x1 : decide (G2.size ≤ s.size) = true := by simp; omega
              have x2 : decide ((G2.size : Int) ≤ (s.size : Int)) = true := by simp; omega
              have x3 : ((rr.length : Int) == (s.size : Int) - (G2.size : Int)) = true := beq_iff_eq.2 (by omega)
              clear hcur hG2l hG2s
              go_wp2_with fail
              refine (rdLeft_any g (some rr) _ HR3.out).mono ?_
              rintro e w' ⟨rfl, rfl⟩
              rw [show ((leftOf (some rr) : Nat) : Int) = (rr.length : Int) from rfl]
              go_wp2_with fail
              refine (begins_any s G2 _ (by omega)).mono ?_
              rintro e w' ⟨rfl, rfl⟩
              rw [HPre.out]
              go_wp2_with fail
              go_roundg (cs.length - (k + 1))
              case measure => omega
              case rel => exact ⟨k + 1, G2, rr, by omega, Nat.le_refl _, by go_num, rfl, HS2.out, HR3.out, HB3.out⟩
            · by_cases y1 : s.size < G2.size
              · have x1 : decide (G2.size ≤ s.size) = false := by simp; omega
                have x2 : decide ((G2.size : Int) ≤ (s.size : Int)) = false := by simp; omega
                clear hne hG2l hG2s
                go_wp2_with fail
                refine (rdDone_any g none _ HR3.out).mono ?_
                rintro e w' ⟨rfl, rfl⟩
                rw [show doneOf none = false from rfl]
                go_wp2_with fail
                refine (rdLeft_any g none _ HR3.out).mono ?_
                rintro e w' ⟨rfl, rfl⟩
                rw [show ((leftOf none : Nat) : Int) = 0 from rfl]
                go_wp2_with fail
                refine (rdInt_any g none _ HR3.out).mono ?_
                rintro e w4 ⟨rfl, hr4, hg4⟩
                rw [show opInt none = (0, none) from rfl] at hr4 ⊢
                have HR4 := Lib.hid hr4
                have HB4 := Lib.hid (HB3.out.grown hg4 HB3.out.size (fun k e => by cases e; exact hsz))
                clear hr4 hg4
                go_wp2_with fail
                refine (rdText_any g none _ HR4.out).mono ?_
                rintro e w5 ⟨rfl, hr5, hg5⟩
                rw [show opText none = ([], none) from rfl] at hr5 ⊢
                have HR5 := Lib.hid hr5
                have HB5 := Lib.hid (HB4.out.grown hg5 HB4.out.size (fun k e => by cases e; exact hsz))
                clear hr5 hg5
                go_wp2_with fail
                refine (rdNums_any g none _ HR5.out).mono ?_
                rintro e w6 ⟨v6, rfl, hown6, hr6, hg6⟩
                rw [show opNums none = ([], none) from rfl] at hr6 hown6
                have HR6 := Lib.hid hr6
                have HB6 := Lib.hid (HB5.out.grown hg6 HB5.out.size (fun k e => by cases e; exact hsz))
                obtain ⟨a6, c6, rfl⟩ := owns_zero hown6
                clear hr6 hg6 hown6
                go_wp2_with fail
                refine (rdTexts_any g none _ HR6.out).mono ?_
                rintro e w7 ⟨v7, rfl, hown7, hr7, hg7⟩
                rw [show opTexts none = ([], none) from rfl] at hr7 hown7
                have HR7 := Lib.hid hr7
                have HB7 := Lib.hid (HB6.out.grown hg7 HB6.out.size (fun k e => by cases e; exact hsz))
                obtain ⟨a7, c7, rfl⟩ := owns_zero hown7
                clear hr7 hg7 hown7
                go_wp2_with fail
                refine (rdNum_any g none _ HR7.out).mono ?_
                rintro e w8 ⟨rfl, hr8, hg8⟩
                rw [show opNum none = (0, none) from rfl] at hr8 ⊢
                have HB8 := Lib.hid (HB7.out.grown hg8 HB7.out.size (fun k e => by cases e; exact hsz))
                clear hr8 hg8
                go_wp2_with fail
                go_ret
                exact ⟨rfl, HB8.out⟩
              · have x1 : decide (G2.size ≤ s.size) = true := by simp; omega
                have x2 : decide ((G2.size : Int) ≤ (s.size : Int)) = true := by simp; omega
                by_cases y2 : G2.size = s.size
                · have HPre : Hid (decide (G2.data.toList <+: s.data.toList) = false) := Lib.hid (decide_eq_false (fun h => hne (by
                    have e1 := h.eq_of_length (by simpa using y2)
                    have e2 := HS.out
                    rw [← e1, hG2l] at e2
                    exact (List.append_cancel_left e2).symm)))
                  have x3 : ((0 : Int) == (s.size : Int) - (G2.size : Int)) = true := beq_iff_eq.2 (by omega)
                  have x4 : (s.size : Int) - (G2.size : Int) = 0 := by omega
                  clear hne hG2l hG2s
                  go_wp2_with fail
                  refine (rdLeft_any g none _ HR3.out).mono ?_
                  rintro e w' ⟨rfl, rfl⟩
                  rw [show ((leftOf none : Nat) : Int) = 0 from rfl]
                  go_wp2_with fail
                  refine (begins_any s G2 _ (by omega)).mono ?_
                  rintro e w' ⟨rfl, rfl⟩
                  rw [HPre.out]
                  go_wp2_with fail
                  refine (rdDone_any g none _ HR3.out).mono ?_
                  rintro e w' ⟨rfl, rfl⟩
                  rw [show doneOf none = false from rfl]
                  go_wp2_with fail
                  refine (rdLeft_any g none _ HR3.out).mono ?_
                  rintro e w' ⟨rfl, rfl⟩
                  rw [show ((leftOf none : Nat) : Int) = 0 from rfl]
                  go_wp2_with fail
                  refine (rdInt_any g none _ HR3.out).mono ?_
                  rintro e w4 ⟨rfl, hr4, hg4⟩
                  rw [show opInt none = (0, none) from rfl] at hr4 ⊢
                  have HR4 := Lib.hid hr4
                  have HB4 := Lib.hid (HB3.out.grown hg4 HB3.out.size (fun k e => by cases e; exact hsz))
                  clear hr4 hg4
                  go_wp2_with fail
                  refine (rdText_any g none _ HR4.out).mono ?_
                  rintro e w5 ⟨rfl, hr5, hg5⟩
                  rw [show opText none = ([], none) from rfl] at hr5 ⊢
                  have HR5 := Lib.hid hr5
                  have HB5 := Lib.hid (HB4.out.grown hg5 HB4.out.size (fun k e => by cases e; exact hsz))
                  clear hr5 hg5
                  go_wp2_with fail
                  refine (rdNums_any g none _ HR5.out).mono ?_
                  rintro e w6 ⟨v6, rfl, hown6, hr6, hg6⟩
                  rw [show opNums none = ([], none) from rfl] at hr6 hown6
                  have HR6 := Lib.hid hr6
                  have HB6 := Lib.hid (HB5.out.grown hg6 HB5.out.size (fun k e => by cases e; exact hsz))
                  obtain ⟨a6, c6, rfl⟩ := owns_zero hown6
                  clear hr6 hg6 hown6
                  go_wp2_with fail
                  refine (rdTexts_any g none _ HR6.out).mono ?_
                  rintro e w7 ⟨v7, rfl, hown7, hr7, hg7⟩
                  rw [show opTexts none = ([], none) from rfl] at hr7 hown7
                  have HR7 := Lib.hid hr7
                  have HB7 := Lib.hid (HB6.out.grown hg7 HB6.out.size (fun k e => by cases e; exact hsz))
                  obtain ⟨a7, c7, rfl⟩ := owns_zero hown7
                  clear hr7 hg7 hown7
                  go_wp2_with fail
                  refine (rdNum_any g none _ HR7.out).mono ?_
                  rintro e w8 ⟨rfl, hr8, hg8⟩
                  rw [show opNum none = (0, none) from rfl] at hr8 ⊢
                  have HB8 := Lib.hid (HB7.out.grown hg8 HB7.out.size (fun k e => by cases e; exact hsz))
                  clear hr8 hg8
                  go_wp2_with fail
                  go_ret
                  exact ⟨rfl, HB8.out⟩
                · have x3 : ((0 : Int) == (s.size : Int) - (G2.size : Int)) = false := beq_eq_false_iff_ne.2 (by omega)
                  have x4 : ¬ (s.size : Int) - (G2.size : Int) = 0 := by omega
                  clear hne hG2l hG2s
                  go_wp2_with fail
                  refine (rdLeft_any g none _ HR3.out).mono ?_
                  rintro e w' ⟨rfl, rfl⟩
                  rw [show ((leftOf none : Nat) : Int) = 0 from rfl]
                  go_wp2_with fail
                  refine (rdDone_any g none _ HR3.out).mono ?_
                  rintro e w' ⟨rfl, rfl⟩
                  rw [show doneOf none = false from rfl]
                  go_wp2_with fail
                  refine (rdLeft_any g none _ HR3.out).mono ?_
                  rintro e w' ⟨rfl, rfl⟩
                  rw [show ((leftOf none : Nat) : Int) = 0 from rfl]
                  go_wp2_with fail
                  refine (rdInt_any g none _ HR3.out).mono ?_
                  rintro e w4 ⟨rfl, hr4, hg4⟩
                  rw [show opInt none = (0, none) from rfl] at hr4 ⊢
                  have HR4 := Lib.hid hr4
                  have HB4 := Lib.hid (HB3.out.grown hg4 HB3.out.size (fun k e => by cases e; exact hsz))
                  clear hr4 hg4
                  go_wp2_with fail
                  refine (rdText_any g none _ HR4.out).mono ?_
                  rintro e w5 ⟨rfl, hr5, hg5⟩
                  rw [show opText none = ([], none) from rfl] at hr5 ⊢
                  have HR5 := Lib.hid hr5
                  have HB5 := Lib.hid (HB4.out.grown hg5 HB4.out.size (fun k e => by cases e; exact hsz))
                  clear hr5 hg5
                  go_wp2_with fail
                  refine (rdNums_any g none _ HR5.out).mono ?_
                  rintro e w6 ⟨v6, rfl, hown6, hr6, hg6⟩
                  rw [show opNums none = ([], none) from rfl] at hr6 hown6
                  have HR6 := Lib.hid hr6
                  have HB6 := Lib.hid (HB5.out.grown hg6 HB5.out.size (fun k e => by cases e; exact hsz))
                  obtain ⟨a6, c6, rfl⟩ := owns_zero hown6
                  clear hr6 hg6 hown6
                  go_wp2_with fail
                  refine (rdTexts_any g none _ HR6.out).mono ?_
                  rintro e w7 ⟨v7, rfl, hown7, hr7, hg7⟩
                  rw [show opTexts none = ([], none) from rfl] at hr7 hown7
                  have HR7 := Lib.hid hr7
                  have HB7 := Lib.hid (HB6.out.grown hg7 HB6.out.size (fun k e => by cases e; exact hsz))
                  obtain ⟨a7, c7, rfl⟩ := owns_zero hown7
                  clear hr7 hg7 hown7
                  go_wp2_with fail
                  refine (rdNum_any g none _ HR7.out).mono ?_
                  rintro e w8 ⟨rfl, hr8, hg8⟩
                  rw [show opNum none = (0, none) from rfl] at hr8 ⊢
                  have HB8 := Lib.hid (HB7.out.grown hg8 HB7.out.size (fun k e => by cases e; exact hsz))
                  clear hr8 hg8
                  go_wp2_with fail
                  go_ret
                  exact ⟨rfl, HB8.out⟩
        · obtain rfl : k = cs.length := by omega
          clear hlt hk
          go_wp2_with fail
          go_ret
          exact ⟨rfl, HBw.out⟩
end Go.Proofs.YtapbehipdeabbaaDoor
