/- bourneref02: a reader's Text, More, Nums, Texts. -/
import Derived.Test.YtapbehipdeabbaaDoorWRefC
namespace Go.Proofs.YtapbehipdeabbaaDoor
open Go.RowKit
set_option maxRecDepth 100000 in
set_option maxHeartbeats 1000000 in
theorem qText_any (g : Nat) (st : RSt) (w : World) (h : QAt g st w) :
    Calls Tryd.prog 31 #[.pointer (some ⟨g, 0, none⟩)] w fun e w' => e = .returned (.string ⟨(opText st).1.toArray⟩) ∧ QAt g (opText st).2 w' ∧ w.grownBy w' (some g) := by
  have h' := h
  obtain ⟨rest, bad, hb, hr, he, hst⟩ := h
  cases bad with
  | false =>
    simp only [Bool.false_eq_true, if_false] at hst
    subst hst
    exact qText_alive g rest w h' hr hb
  | true =>
    simp only [if_true] at hst
    subst hst
    have hre := he rfl
    subst hre
    have c0 : w.cell? ⟨g, 0, none⟩ = some (.string ⟨#[]⟩) := by rw [Lib.cell_of_heap hb]; rfl
    have H := Lib.hid h'
    clear hb h' he
    go_enter Tryd.func31, Tryd.ntmps31
    go_wp2_with fail
    go_loopw [4] (fun iv wr => iv = .int .i64 0 ∧ wr = w) (fun _ _ => 0)
    case atStart => exact ⟨rfl, rfl⟩
    case round =>
      obtain ⟨rfl, rfl⟩ := hrel
      go_wp2_with fail
      refine (qfail_any g _ _ H.out).mono ?_
      rintro e w1 ⟨rfl, h1, h2⟩
      have H1 := Lib.hid h1
      have H2 := Lib.hid h2
      clear h1 h2
      go_wp2_with fail
      go_ret
      exact ⟨rfl, H1.out, H2.out⟩
/-- More: whether an element follows, and what is left -/
def opMore (st : RSt) : Bool × RSt :=
  match st with
  | none => (false, none)
  | some [] => (false, none)
  | some (c :: t) => if c = 0 then (false, some t) else if c = 1 then (true, some t) else (false, none)
set_option maxRecDepth 100000 in
set_option maxHeartbeats 2000000 in
theorem qMore_any (g : Nat) (st : RSt) (w : World) (h : QAt g st w) :
    Calls Tryd.prog 56 #[.pointer (some ⟨g, 0, none⟩)] w fun e w' => e = .returned (.bool (opMore st).1) ∧ QAt g (opMore st).2 w' ∧ w.grownBy w' (some g) := by
  obtain ⟨res, hres⟩ : ∃ res, res = opMore st := ⟨_, rfl⟩
  rw [← hres]
  have H := Lib.hid h
  obtain ⟨rest, bad, hb, hr, he, hst⟩ := h
  have c0 : w.cell? ⟨g, 0, none⟩ = some (.string rest) := by rw [Lib.cell_of_heap hb]; rfl
  have f0 : w.frozen? ⟨g, 0, none⟩ = false := Lib.frozen_of_heap hb 0
  have HB := Lib.hid hb
  clear hb
  by_cases hz : rest.size = 0
  · have hnil : rest.data.toList = [] := List.eq_nil_of_length_eq_zero (by simpa using hz)
    have HE : Hid (res = (false, none)) := Lib.hid (by
      rw [hres, hst]
      cases bad with
      | true => rfl
      | false => rw [hnil]; rfl)
    have hnl : rest.toList = [] := by rw [ByteArray.toList_eq, hnil]
    have hn2 : (rest.toList == []) = true := by rw [hnl]; rfl
    clear hres hst he hnil hz hnl
    go_enter Tryd.func56, Tryd.ntmps56
    go_wp2_with fail
    refine (qfail_any g _ _ H.out).mono ?_
    rintro e w1 ⟨rfl, h1, h2⟩
    have H1 := Lib.hid h1
    have H2 := Lib.hid h2
    clear h1 h2
    go_wp2_with fail
    go_ret
    exact ⟨by rw [HE.out]; rfl, by rw [HE.out]; exact H1.out, H2.out⟩
  · have h0 : 0 < rest.size := by omega
    have hbad : bad = false := by
      cases bad with
      | true => have := he rfl; subst this; exact absurd rfl hz
      | false => rfl
    subst hbad
    have HC := Lib.hid (str_cons rest h0)
    have hnl : rest.toList ≠ [] := toList_ne rest h0
    have hn3 : (rest.toList == []) = false := beq_eq_false_iff_ne.2 hnl
    have HX := Lib.hid (extract_toList rest 1)
    have hx := (rest[0]'h0).toNat_lt
    have HR : Hid (res = if rest[0]'h0 = 0 then (false, some (rest.extract 1 rest.size).data.toList) else if rest[0]'h0 = 1 then (true, some (rest.extract 1 rest.size).data.toList) else (false, none)) := Lib.hid (by
      rw [hres, hst, HX.out]
      simp only [Bool.false_eq_true, if_false]
      conv => lhs; rw [HC.out]
      rfl)
    clear hres hst he hnl hz HC
    by_cases d0 : rest[0]'h0 = 0
    · have d0n : (rest[0]'h0).toNat = 0 := by rw [d0]; rfl
      have t1 : decide (((rest[0]'h0).toNat : Int) > 1) = false := by simp; omega
      have t2 : (((rest[0]'h0).toNat : Int) == 1) = false := beq_eq_false_iff_ne.2 (by omega)
      have t3 : ¬ (1 < ((rest[0]'h0).toNat : Int)) := by omega
      have HE : Hid (res = (false, some (rest.extract 1 rest.size).data.toList)) := Lib.hid (by rw [HR.out, if_pos d0])
      clear d0 d0n HR
      go_enter Tryd.func56, Tryd.ntmps56
      go_wp2_with fail
      go_ret
      exact ⟨by rw [HE.out]; rfl, by rw [HE.out]; exact ⟨_, false, two_set0 HB.out, by rw [ByteArray.size_extract]; omega, (fun h => by cases h), rfl⟩, grown_set (grown_refl _ _) _⟩
    · have d0n : ¬ (rest[0]'h0).toNat = 0 := fun e => d0 (UInt8.toNat_inj.1 (by rw [e]; rfl))
      by_cases d1 : rest[0]'h0 = 1
      · have d1n : (rest[0]'h0).toNat = 1 := by rw [d1]; rfl
        have t1 : decide (((rest[0]'h0).toNat : Int) > 1) = false := by simp; omega
        have t2 : (((rest[0]'h0).toNat : Int) == 1) = true := beq_iff_eq.2 (by omega)
        have t3 : ¬ (1 < ((rest[0]'h0).toNat : Int)) := by omega
        have HE : Hid (res = (true, some (rest.extract 1 rest.size).data.toList)) := Lib.hid (by rw [HR.out, if_neg d0, if_pos d1])
        clear d0 d0n d1 d1n HR
        go_enter Tryd.func56, Tryd.ntmps56
        go_wp2_with fail
        go_ret
        exact ⟨by rw [HE.out]; rfl, by rw [HE.out]; exact ⟨_, false, two_set0 HB.out, by rw [ByteArray.size_extract]; omega, (fun h => by cases h), rfl⟩, grown_set (grown_refl _ _) _⟩
      · have d1n : ¬ (rest[0]'h0).toNat = 1 := fun e => d1 (UInt8.toNat_inj.1 (by rw [e]; rfl))
        have t1 : decide (((rest[0]'h0).toNat : Int) > 1) = true := by simp; omega
        have t3 : 1 < ((rest[0]'h0).toNat : Int) := by omega
        have HE : Hid (res = (false, none)) := Lib.hid (by rw [HR.out, if_neg d0, if_neg d1])
        clear d0 d0n d1 d1n HR
        go_enter Tryd.func56, Tryd.ntmps56
        go_wp2_with fail
        refine (qfail_any g _ _ H.out).mono ?_
        rintro e w1 ⟨rfl, h1, h2⟩
        have H1 := Lib.hid h1
        have H2 := Lib.hid h2
        clear h1 h2
        go_wp2_with fail
        go_ret
        exact ⟨by rw [HE.out]; rfl, by rw [HE.out]; exact H1.out, H2.out⟩
def stMeas (st : RSt) : Nat := match st with | none => 0 | some s => s.length + 1
theorem qBad {g : Nat} {st : RSt} {w : World} (h : QAt g st w) : w.cell? ⟨g, 1, none⟩ = some (.bool (st == none)) := by
  obtain ⟨rest, bad, hb, _, _, rfl⟩ := h
  rw [Lib.cell_of_heap hb]
  cases bad <;> rfl

set_option maxRecDepth 100000 in
set_option maxHeartbeats 4000000 in
theorem qNums_any (g : Nat) (st : RSt) (w : World) (h : QAt g st w) :
    Calls Tryd.prog 34 #[.pointer (some ⟨g, 0, none⟩)] w fun e w' => ∃ v, e = .returned v ∧
      w'.ownsRow w.heap.size 3 1 v (opNums st).1.length ((opNums st).1.map (Value.int .i64)) ∧ QAt g (opNums st).2 w' ∧ w.grownBy w' (some g) := by
  obtain ⟨i0, hi, hz0, hz1, hz2⟩ := info_parts infoI
  have hg : g < w.heap.size := h.lt
  obtain ⟨res, hres⟩ : ∃ res, res = opNums st := ⟨_, rfl⟩
  rw [← hres]
  have HL0 : Hid (stMeas st ≤ 1000001) := by
    obtain ⟨rest, bad, hb, hl, _, rfl⟩ := h
    cases bad with
    | true => exact Lib.hid (Nat.zero_le _)
    | false => exact Lib.hid (by simpa [stMeas] using hl)
  obtain ⟨R, HI0, HR⟩ : ∃ R, Hid (LInv rdInt R [] st) ∧ Hid (res = outL R) := by
    cases st with
    | none => exact ⟨none, Lib.hid rfl, Lib.hid hres⟩
    | some s => exact ⟨_, Lib.hid (LInv.start rdInt s), Lib.hid (by rw [hres]; exact opList_of)⟩
  have H := Lib.hid h
  clear h hres
  go_enter Tryd.func34, Tryd.ntmps34
  go_wp2_with fail
  go_loopg [3] (stMeas st) (fun m v wr => ∃ (acc : List Int) (cur : RSt), LInv rdInt R acc cur ∧ stMeas cur ≤ m ∧ acc.length + stMeas cur ≤ 1000001 ∧ wr.ownsRow w.heap.size 3 1 v acc.length (acc.map (Value.int .i64)) ∧ QAt g cur wr ∧ w.grownBy wr (some g))
  case atStart => exact ⟨[], st, HI0.out, Nat.le_refl _, by simpa using HL0.out, World.ownsRow_nil _ _ _ _, H.out, grown_refl _ _⟩
  case round =>
    obtain ⟨acc, cur, hI, hm, hl, hown, hrd, hgr⟩ := hrel
    clear H HI0 HL0
    have HI := Lib.hid hI
    have HO := Lib.hid hown
    have HG := Lib.hid hgr
    have HQ := Lib.hid hrd
    have hsz := hgr.size
    clear hI hown hgr hrd
    by_cases hmore : (opMore cur).1 = true
    · obtain ⟨t, hcur, hmo⟩ : ∃ t, cur = some (1 :: t) ∧ opMore cur = (true, some t) := by
        match cur, hmore with
        | some (c :: t), hmore =>
          simp only [opMore] at hmore
          split at hmore
          · cases hmore
          · split at hmore
            · next h0 h1 => subst h1; exact ⟨t, rfl, rfl⟩
            · cases hmore
      subst hcur
      have hl2 : acc.length + (t.length + 2) ≤ 1000001 := by simpa [stMeas] using hl
      have hm2 : t.length + 2 ≤ gk := by simpa [stMeas] using hm
      clear hmore hl hm
      have HMO := Lib.hid hmo
      clear hmo
      go_wp2_with fail
      refine (qMore_any g _ _ HQ.out).mono ?_
      rintro e w1 ⟨rfl, hq1, hg1⟩
      rw [HMO.out] at hq1 ⊢
      have HQ1 := Lib.hid hq1
      have HG1 := Lib.hid (grown_trans HG.out hg1)
      have HO1 := Lib.hid (owns_grown HO.out hg1 hg)
      clear hq1 hg1
      go_wp2_with fail
      refine (qInt_any g _ _ HQ1.out).mono ?_
      rintro e w2 ⟨rfl, hq2, hg2⟩
      have HQ2 := Lib.hid hq2
      have HG2 := Lib.hid (grown_trans HG1.out hg2)
      have HO2 := Lib.hid (owns_grown HO1.out hg2 hg)
      have hsz2 := HG2.out.size
      clear hq2 hg2
      generalize hop : opInt (some t) = q at *
      obtain ⟨x, st1⟩ := q
      have HOP := Lib.hid hop
      clear hop
      simp only at HQ2
      go_wp2_with (at_builtin; refine Hid.out ?_)
      refine Lib.hid ?_
      refine wpList_append_own _ rfl _ _ 25 rfl w.heap.size 3 i0 (.int .i64 0) 1 8 undIs hi hz0 hz1 hz2 rfl (by decide) _ _ _ rfl (HO2.out.alloc _) ⟨w2.heap.size, 0, none⟩ 1 1 [.int .i64 x] rfl rfl (cells_new _ _ _) (by intro u hu; simp at hu; subst hu; rfl) (by unfold maxLen; omega) (by omega) (by simp; omega) ?_
      intro v' w3 hown' hgrow _
      have HO3 : Hid (w3.ownsRow w.heap.size 3 1 v' (acc ++ [x]).length ((acc ++ [x]).map (Value.int .i64))) := by
        refine Lib.hid ?_
        rw [List.length_append, List.map_append]
        exact hown'
      have hA : w2.grownBy (w2.alloc (.cells #[.int .i64 x] 3)) (some g) := World.grownBy_alloc _ _ _
      have HG3 : Hid (w.grownBy w3 (some g)) := Lib.hid (grown_own (grown_trans HG2.out hA) (HO2.out.alloc _) (Nat.le_refl _) hgrow)
      have HQ3 : Hid (QAt g st1 w3) := Lib.hid ((HQ2.out.grown (World.grownBy_alloc _ _ none) (by simp)).grown hgrow (fun e => by have := HO2.out.block_ge e.symm; omega))
      have HI3 : Hid (LInv rdInt R (acc ++ [x]) st1 ∧ (acc ++ [x]).length + stMeas st1 ≤ 1000001 ∧ stMeas st1 < gk) := by
        refine Lib.hid ?_
        cases st1 with
        | none => exact ⟨(HI.out.step rdInt_lt').2 ((rdInt_of_op (r := []) HOP.out).1 rfl), by simp [stMeas]; omega, by simp [stMeas]; omega⟩
        | some r =>
          have h1 := (rdInt_of_op (r := r) HOP.out).2 rfl
          have h2 := rdInt_lt h1
          exact ⟨(HI.out.step rdInt_lt').1 _ _ h1, by simp [stMeas]; omega, by simp [stMeas]; omega⟩
      clear hown' hgrow hA
      go_wp2_with fail
      go_roundg (stMeas st1)
      case measure => exact HI3.out.2.2
      case rel => exact ⟨_, _, HI3.out.1, Nat.le_refl _, HI3.out.2.1, HO3.out, HQ3.out, HG3.out⟩
    · have hmf : (opMore cur).1 = false := by simpa using hmore
      clear hmore
      by_cases hdead : (opMore cur).2 = none
      · have HE : Hid (res = ([], none)) := Lib.hid (by
          have : R = none := by
            match cur, HI.out, hdead, hmf with
            | none, h, _, _ => exact h
            | some [], h, _, _ => exact h.empty
            | some (c :: t), h, hd, hf =>
              simp only [opMore] at hd hf
              by_cases c0 : c = 0
              · rw [if_pos c0] at hd; cases hd
              · rw [if_neg c0] at hd hf
                by_cases c1 : c = 1
                · rw [if_pos c1] at hd; cases hd
                · exact h.other c0 c1
          rw [HR.out, this]
          rfl)
        have HMF := Lib.hid hmf
        have HDD := Lib.hid hdead
        clear hmf hdead hm hl
        go_wp2_with fail
        refine (qMore_any g _ _ HQ.out).mono ?_
        rintro e w1 ⟨rfl, hq1, hg1⟩
        rw [HMF.out]
        rw [HDD.out] at hq1
        have c1 := qBad hq1
        rw [show ((none : RSt) == none) = true from rfl] at c1
        have HQ1 := Lib.hid hq1
        have HG1 := Lib.hid (grown_trans HG.out hg1)
        clear hq1 hg1
        go_wp2_with fail
        go_ret
        exact ⟨_, rfl, by rw [HE.out]; exact World.ownsRow_nil _ _ _ _, by rw [HE.out]; exact HQ1.out, HG1.out⟩
      · obtain ⟨t, hcur⟩ : ∃ t, cur = some (0 :: t) := by
          match cur, hdead, hmf with
          | none, h, _ => exact absurd rfl h
          | some [], h, _ => exact absurd rfl h
          | some (c :: t), hd, hf =>
            simp only [opMore] at hd hf
            by_cases c0 : c = 0
            · subst c0; exact ⟨t, rfl⟩
            · rw [if_neg c0] at hd hf
              by_cases c1 : c = 1
              · rw [if_pos c1] at hf; cases hf
              · rw [if_neg c1] at hd; exact absurd rfl hd
        subst hcur
        have HE : Hid (res = (acc, some t)) := Lib.hid (by
          rw [HR.out, HI.out.fin]
          rfl)
        clear hmf hdead hm hl
        go_wp2_with fail
        refine (qMore_any g _ _ HQ.out).mono ?_
        rintro e w1 ⟨rfl, hq1, hg1⟩
        rw [show opMore (some (0 :: t)) = (false, some t) from rfl] at hq1 ⊢
        have c1 := qBad hq1
        rw [show ((some t : RSt) == none) = false from rfl] at c1
        have HQ1 := Lib.hid hq1
        have HG1 := Lib.hid (grown_trans HG.out hg1)
        have HO1 := Lib.hid (owns_grown HO.out hg1 hg)
        clear hq1 hg1
        go_wp2_with fail
        go_ret
        exact ⟨_, rfl, by rw [HE.out]; exact HO1.out, by rw [HE.out]; exact HQ1.out, HG1.out⟩

set_option maxRecDepth 100000 in
set_option maxHeartbeats 4000000 in
theorem qTexts_any (g : Nat) (st : RSt) (w : World) (h : QAt g st w) :
    Calls Tryd.prog 37 #[.pointer (some ⟨g, 0, none⟩)] w fun e w' => ∃ v, e = .returned v ∧
      w'.ownsRow w.heap.size 9 1 v (opTexts st).1.length ((opTexts st).1.map encT) ∧ QAt g (opTexts st).2 w' ∧ w.grownBy w' (some g) := by
  obtain ⟨i0, hi, hz0, hz1, hz2⟩ := info_parts infoS
  have hg : g < w.heap.size := h.lt
  obtain ⟨res, hres⟩ : ∃ res, res = opTexts st := ⟨_, rfl⟩
  rw [← hres]
  have HL0 : Hid (stMeas st ≤ 1000001) := by
    obtain ⟨rest, bad, hb, hl, _, rfl⟩ := h
    cases bad with
    | true => exact Lib.hid (Nat.zero_le _)
    | false => exact Lib.hid (by simpa [stMeas] using hl)
  obtain ⟨R, HI0, HR⟩ : ∃ R, Hid (LInv rdText R [] st) ∧ Hid (res = outL R) := by
    cases st with
    | none => exact ⟨none, Lib.hid rfl, Lib.hid hres⟩
    | some s => exact ⟨_, Lib.hid (LInv.start rdText s), Lib.hid (by rw [hres]; exact opList_of)⟩
  have H := Lib.hid h
  clear h hres
  go_enter Tryd.func37, Tryd.ntmps37
  go_wp2_with fail
  go_loopg [3] (stMeas st) (fun m v wr => ∃ (acc : List (List UInt8)) (cur : RSt), LInv rdText R acc cur ∧ stMeas cur ≤ m ∧ acc.length + stMeas cur ≤ 1000001 ∧ wr.ownsRow w.heap.size 9 1 v acc.length (acc.map encT) ∧ QAt g cur wr ∧ w.grownBy wr (some g))
  case atStart => exact ⟨[], st, HI0.out, Nat.le_refl _, by simpa using HL0.out, World.ownsRow_nil _ _ _ _, H.out, grown_refl _ _⟩
  case round =>
    obtain ⟨acc, cur, hI, hm, hl, hown, hrd, hgr⟩ := hrel
    clear H HI0 HL0
    have HI := Lib.hid hI
    have HO := Lib.hid hown
    have HG := Lib.hid hgr
    have HQ := Lib.hid hrd
    have hsz := hgr.size
    clear hI hown hgr hrd
    by_cases hmore : (opMore cur).1 = true
    · obtain ⟨t, hcur, hmo⟩ : ∃ t, cur = some (1 :: t) ∧ opMore cur = (true, some t) := by
        match cur, hmore with
        | some (c :: t), hmore =>
          simp only [opMore] at hmore
          split at hmore
          · cases hmore
          · split at hmore
            · next h0 h1 => subst h1; exact ⟨t, rfl, rfl⟩
            · cases hmore
      subst hcur
      have hl2 : acc.length + (t.length + 2) ≤ 1000001 := by simpa [stMeas] using hl
      have hm2 : t.length + 2 ≤ gk := by simpa [stMeas] using hm
      clear hmore hl hm
      have HMO := Lib.hid hmo
      clear hmo
      go_wp2_with fail
      refine (qMore_any g _ _ HQ.out).mono ?_
      rintro e w1 ⟨rfl, hq1, hg1⟩
      rw [HMO.out] at hq1 ⊢
      have HQ1 := Lib.hid hq1
      have HG1 := Lib.hid (grown_trans HG.out hg1)
      have HO1 := Lib.hid (owns_grown HO.out hg1 hg)
      clear hq1 hg1
      go_wp2_with fail
      refine (qText_any g _ _ HQ1.out).mono ?_
      rintro e w2 ⟨rfl, hq2, hg2⟩
      have HQ2 := Lib.hid hq2
      have HG2 := Lib.hid (grown_trans HG1.out hg2)
      have HO2 := Lib.hid (owns_grown HO1.out hg2 hg)
      have hsz2 := HG2.out.size
      clear hq2 hg2
      generalize hop : opText (some t) = q at *
      obtain ⟨x, st1⟩ := q
      have HOP := Lib.hid hop
      clear hop
      simp only at HQ2
      go_wp2_with (at_builtin; refine Hid.out ?_)
      refine Lib.hid ?_
      refine wpList_append_own _ rfl _ _ 26 rfl w.heap.size 9 i0 (.string ⟨#[]⟩) 1 16 undSs hi hz0 hz1 hz2 rfl (by decide) _ _ _ rfl (HO2.out.alloc _) ⟨w2.heap.size, 0, none⟩ 1 1 [encT x] rfl rfl (cells_new _ _ _) (by intro u hu; simp at hu; subst hu; rfl) (by unfold maxLen; omega) (by omega) (by simp; omega) ?_
      intro v' w3 hown' hgrow _
      have HO3 : Hid (w3.ownsRow w.heap.size 9 1 v' (acc ++ [x]).length ((acc ++ [x]).map encT)) := by
        refine Lib.hid ?_
        rw [List.length_append, List.map_append]
        exact hown'
      have hA : w2.grownBy (w2.alloc (.cells #[encT x] 9)) (some g) := World.grownBy_alloc _ _ _
      have HG3 : Hid (w.grownBy w3 (some g)) := Lib.hid (grown_own (grown_trans HG2.out hA) (HO2.out.alloc _) (Nat.le_refl _) hgrow)
      have HQ3 : Hid (QAt g st1 w3) := Lib.hid ((HQ2.out.grown (World.grownBy_alloc _ _ none) (by simp)).grown hgrow (fun e => by have := HO2.out.block_ge e.symm; omega))
      have HI3 : Hid (LInv rdText R (acc ++ [x]) st1 ∧ (acc ++ [x]).length + stMeas st1 ≤ 1000001 ∧ stMeas st1 < gk) := by
        refine Lib.hid ?_
        cases st1 with
        | none => exact ⟨(HI.out.step rdText_lt').2 ((rdText_of_op (r := []) HOP.out).1 rfl), by simp [stMeas]; omega, by simp [stMeas]; omega⟩
        | some r =>
          have h1 := (rdText_of_op (r := r) HOP.out).2 rfl
          have h2 := rdText_lt h1
          exact ⟨(HI.out.step rdText_lt').1 _ _ h1, by simp [stMeas]; omega, by simp [stMeas]; omega⟩
      clear hown' hgrow hA
      go_wp2_with fail
      go_roundg (stMeas st1)
      case measure => exact HI3.out.2.2
      case rel => exact ⟨_, _, HI3.out.1, Nat.le_refl _, HI3.out.2.1, HO3.out, HQ3.out, HG3.out⟩
    · have hmf : (opMore cur).1 = false := by simpa using hmore
      clear hmore
      by_cases hdead : (opMore cur).2 = none
      · have HE : Hid (res = ([], none)) := Lib.hid (by
          have : R = none := by
            match cur, HI.out, hdead, hmf with
            | none, h, _, _ => exact h
            | some [], h, _, _ => exact h.empty
            | some (c :: t), h, hd, hf =>
              simp only [opMore] at hd hf
              by_cases c0 : c = 0
              · rw [if_pos c0] at hd; cases hd
              · rw [if_neg c0] at hd hf
                by_cases c1 : c = 1
                · rw [if_pos c1] at hd; cases hd
                · exact h.other c0 c1
          rw [HR.out, this]
          rfl)
        have HMF := Lib.hid hmf
        have HDD := Lib.hid hdead
        clear hmf hdead hm hl
        go_wp2_with fail
        refine (qMore_any g _ _ HQ.out).mono ?_
        rintro e w1 ⟨rfl, hq1, hg1⟩
        rw [HMF.out]
        rw [HDD.out] at hq1
        have c1 := qBad hq1
        rw [show ((none : RSt) == none) = true from rfl] at c1
        have HQ1 := Lib.hid hq1
        have HG1 := Lib.hid (grown_trans HG.out hg1)
        clear hq1 hg1
        go_wp2_with fail
        go_ret
        exact ⟨_, rfl, by rw [HE.out]; exact World.ownsRow_nil _ _ _ _, by rw [HE.out]; exact HQ1.out, HG1.out⟩
      · obtain ⟨t, hcur⟩ : ∃ t, cur = some (0 :: t) := by
          match cur, hdead, hmf with
          | none, h, _ => exact absurd rfl h
          | some [], h, _ => exact absurd rfl h
          | some (c :: t), hd, hf =>
            simp only [opMore] at hd hf
            by_cases c0 : c = 0
            · subst c0; exact ⟨t, rfl⟩
            · rw [if_neg c0] at hd hf
              by_cases c1 : c = 1
              · rw [if_pos c1] at hf; cases hf
              · rw [if_neg c1] at hd; exact absurd rfl hd
        subst hcur
        have HE : Hid (res = (acc, some t)) := Lib.hid (by
          rw [HR.out, HI.out.fin]
          rfl)
        clear hmf hdead hm hl
        go_wp2_with fail
        refine (qMore_any g _ _ HQ.out).mono ?_
        rintro e w1 ⟨rfl, hq1, hg1⟩
        rw [show opMore (some (0 :: t)) = (false, some t) from rfl] at hq1 ⊢
        have c1 := qBad hq1
        rw [show ((some t : RSt) == none) = false from rfl] at c1
        have HQ1 := Lib.hid hq1
        have HG1 := Lib.hid (grown_trans HG.out hg1)
        have HO1 := Lib.hid (owns_grown HO.out hg1 hg)
        clear hq1 hg1
        go_wp2_with fail
        go_ret
        exact ⟨_, rfl, by rw [HE.out]; exact HO1.out, by rw [HE.out]; exact HQ1.out, HG1.out⟩
end Go.Proofs.YtapbehipdeabbaaDoor
