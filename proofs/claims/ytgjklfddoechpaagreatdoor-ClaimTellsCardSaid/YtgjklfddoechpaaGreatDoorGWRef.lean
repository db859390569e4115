/- Texts merged: XWRefC XWRefD -/
import Derived.Test.YtgjklfddoechpaaGreatDoorWRefB
import Derived.Deep.DeepCutAuto
/- bourneref02: a reader's Text, More, Nums, Texts; SameNums, SameTexts. -/
namespace Go.Proofs.YtgjklfddoechpaaGreatDoor
open Go.RowKit
theorem drop_cons (l : List UInt8) (i : Nat) (c : UInt8) (h : l[i]? = some c) : l.drop i = c :: l.drop (i + 1) := by
  have hl := (List.getElem?_eq_some_iff.1 h).1
  rw [List.getElem?_eq_getElem hl] at h
  rw [List.drop_eq_getElem_cons hl, Option.some.inj h]
theorem str_get (s : ByteArray) (i : Nat) (h : i < s.size) : s.data.toList[i]? = some s[i] := by
  rw [List.getElem?_eq_getElem (by simpa using h)]
  rfl
theorem rdText_short (l : List UInt8) (h : l.length ≤ 1) : rdText l = none := by
  match l, h with
  | [], _ => rfl
  | [_], _ => rfl
theorem rdText_zero (m : UInt8) (r : List UInt8) : rdText (0 :: m :: r) = if m = 1 then some ([], r) else if m = 255 then (rdText r).map (fun p => (0 :: p.1, p.2)) else none := by
  rw [rdText, if_pos rfl]
set_option maxRecDepth 100000 in
set_option maxHeartbeats 4000000 in
theorem qText_alive (g : Nat) (s : ByteArray) (w : World) (h : QAt g (some s.data.toList) w) (hs : s.size ≤ 1000000)
    (hb : w.heap[g]? = some (.cells #[.string s, .bool false] 125 (0, 0))) :
    Calls Tryz.prog 46 #[.pointer (some ⟨g, 0, none⟩)] w fun e w' => e = .returned (.string ⟨(opText (some s.data.toList)).1.toArray⟩) ∧ QAt g (opText (some s.data.toList)).2 w' ∧ w.grownBy w' (some g) := by
  obtain ⟨i0, hi, hz0, hz1, hz2⟩ := info_parts infoB
  obtain ⟨res, hres⟩ : ∃ res, res = opText (some s.data.toList) := ⟨_, rfl⟩
  rw [← hres]
  have HR := Lib.hid hres
  have H := Lib.hid h
  have hg := blk_lt hb
  have HB := Lib.hid hb
  clear hres h hb
  go_enter Tryz.func46, Tryz.ntmps46
  go_wp2_with fail
  go_loopw [3, 4] (fun v iv wr => ∃ (i : Nat) (out : List UInt8), i ≤ s.size ∧ iv = .int .i64 i ∧ out.length ≤ i ∧ rdText s.data.toList = (rdText (s.data.toList.drop i)).map (fun p => (out ++ p.1, p.2)) ∧
    wr.ownsRow w.heap.size 5 1 v out.length (bytesV out) ∧ Below w.heap.size w wr) (fun _ iv _ => s.size - (intOf iv).toNat)
  case atStart => exact ⟨0, [], by omega, rfl, by simp, by simp, World.ownsRow_nil _ _ _ _, Below.refl _ _⟩
  case round =>
    obtain ⟨i, out, hil, rfl, hol, hrd, hown, hB⟩ := hrel
    have HD := Lib.hid hrd
    have HO := Lib.hid hown
    have HBw := Lib.hid hB
    have hsz := hB.size
    have HBk := Lib.hid (blk_below HB.out hB hg)
    have c0 : wr.cell? ⟨g, 0, none⟩ = some (.string s) := by rw [Lib.cell_of_heap HBk.out]; rfl
    have f0 : wr.frozen? ⟨g, 0, none⟩ = false := Lib.frozen_of_heap HBk.out 0
    clear hrd hown hB
    by_cases hlt : i + 1 < s.size
    · have hi0 : i < s.size := by omega
      have HG1 := Lib.hid (drop_cons _ _ _ (str_get s i hi0))
      have HG2 := Lib.hid (drop_cons _ _ _ (str_get s (i + 1) hlt))
      have hx := (s[i]'hi0).toNat_lt
      have hy := (s[i + 1]'hlt).toNat_lt
      have hlt2 : (i : Int) + 1 < (s.size : Int) := by omega
      by_cases hz : s[i]'hi0 = 0
      · have hzn : (s[i]'hi0).toNat = 0 := by rw [hz]; rfl
        have t0 : (((s[i]'hi0).toNat : Int) != 0) = false := by rw [bne, beq_iff_eq.2 (show ((s[i]'hi0).toNat : Int) = 0 by omega)]; rfl
        have HT := Lib.hid (rdText_zero (s[i + 1]'hlt) (s.data.toList.drop (i + 1 + 1)))
        have HD2 : Hid (rdText s.data.toList = (if s[i + 1]'hlt = 1 then some ([], s.data.toList.drop (i + 1 + 1)) else if s[i + 1]'hlt = 255 then (rdText (s.data.toList.drop (i + 1 + 1))).map (fun p => (0 :: p.1, p.2)) else none).map (fun p => (out ++ p.1, p.2))) := Lib.hid (by
          rw [HD.out, HG1.out, HG2.out, hz, HT.out])
        clear hz hzn HD HT HG1 HG2
        by_cases d1 : s[i + 1]'hlt = 1
        · have d1n : (s[i + 1]'hlt).toNat = 1 := by rw [d1]; rfl
          have t1 : (((s[i + 1]'hlt).toNat : Int) == 1) = true := beq_iff_eq.2 (by omega)
          have HE : Hid (res = (out, some (s.data.toList.drop (i + 1 + 1)))) := Lib.hid (by
            rw [HR.out, opText_of, HD2.out, if_pos d1]
            simp)
          clear d1 d1n HD2
          have HO2 := Lib.hid (owns_set HO.out hg (.string (s.extract (i + 2) s.size)) (o := 0))
          go_wp2_with (refine wpList_string_own rfl 115 9 5 _ rfl undBs undB undS _ rfl w.heap.size _ out HO2.out ?_)
          go_wp2_with fail
          go_ret
          refine ⟨ret_str (by rw [HE.out]), ?_, grown_set (grownBy_of_below HBw.out _) _⟩
          rw [HE.out]
          refine ⟨_, false, two_set0 HBk.out, by rw [ByteArray.size_extract]; omega, (fun h => by cases h), ?_⟩
          rw [extract_toList]
          rfl
        · have d1n : ¬ (s[i + 1]'hlt).toNat = 1 := fun e => d1 (UInt8.toNat_inj.1 (by rw [e]; rfl))
          have t1 : (((s[i + 1]'hlt).toNat : Int) == 1) = false := beq_eq_false_iff_ne.2 (by omega)
          by_cases d2 : s[i + 1]'hlt = 255
          · have d2n : (s[i + 1]'hlt).toNat = 255 := by rw [d2]; rfl
            have t2 : (((s[i + 1]'hlt).toNat : Int) != 255) = false := by rw [bne, beq_iff_eq.2 (show ((s[i + 1]'hlt).toNat : Int) = 255 by omega)]; rfl
            have HD3 : Hid (rdText s.data.toList = (rdText (s.data.toList.drop (i + 2))).map (fun p => ((out ++ [0]) ++ p.1, p.2))) := Lib.hid (by
              rw [HD2.out, if_neg d1, if_pos d2, Option.map_map]
              congr 1
              funext p
              simp)
            clear d1 d1n d2 d2n HD2
            go_wp2_with (at_builtin; refine Hid.out ?_)
            refine Lib.hid ?_
            refine wpList_append_own _ rfl _ _ 115 rfl w.heap.size 5 i0 (.int .u8 0) 1 1 undBs hi hz0 hz1 hz2 rfl (by decide) _ _ _ rfl (HO.out.alloc _) ⟨wr.heap.size, 0, none⟩ 1 1 [.int .u8 0] rfl rfl (cells_new _ _ _) (by intro u hu; simp at hu; subst hu; rfl) (by unfold maxLen; omega) (by omega) (by simp; omega) ?_
            intro v' w3 hown' hgrow _
            have HO3 : Hid (w3.ownsRow w.heap.size 5 1 v' (out ++ [0]).length (bytesV (out ++ [0]))) := Lib.hid (by
              rw [List.length_append, bytesV_append]
              exact hown')
            have HB3 : Hid (Below w.heap.size w w3) := Lib.hid ((HBw.out.alloc hsz _).grown hgrow (by simp; omega) (fun k hk => HO.out.block_ge hk))
            have HL3 : Hid ((out ++ [0]).length ≤ i + 2) := Lib.hid (by simp; omega)
            clear hown' hgrow
            go_wp2_with fail
            go_roundw
            case rel => exact ⟨i + 2, out ++ [0], by omega, by go_num, HL3.out, HD3.out, HO3.out, HB3.out⟩
            case measure => simp [intOf]; omega
          · have d2n : ¬ (s[i + 1]'hlt).toNat = 255 := fun e => d2 (UInt8.toNat_inj.1 (by rw [e]; rfl))
            have t2 : (((s[i + 1]'hlt).toNat : Int) != 255) = true := by rw [bne, beq_eq_false_iff_ne.2 (show ¬ ((s[i + 1]'hlt).toNat : Int) = 255 by omega)]; rfl
            have HE : Hid (res = ([], none)) := Lib.hid (by
              rw [HR.out, opText_of, HD2.out, if_neg d1, if_neg d2]
              rfl)
            clear d1 d1n d2 d2n HD2
            go_wp2_with fail
            refine (qfail_any g _ _ (H.out.below HBw.out hg)).mono ?_
            rintro e w1 ⟨rfl, h1, h2⟩
            have H1 := Lib.hid h1
            have H2 := Lib.hid (grown_trans (grownBy_of_below HBw.out (some g)) h2)
            clear h1 h2
            go_wp2_with fail
            go_ret
            exact ⟨ret_str (by rw [HE.out]), by rw [HE.out]; exact H1.out, H2.out⟩
      · have hzn : ¬ (s[i]'hi0).toNat = 0 := fun e => hz (UInt8.toNat_inj.1 (by rw [e]; rfl))
        have t0 : (((s[i]'hi0).toNat : Int) != 0) = true := by rw [bne, beq_eq_false_iff_ne.2 (show ¬ ((s[i]'hi0).toNat : Int) = 0 by omega)]; rfl
        have HD3 : Hid (rdText s.data.toList = (rdText (s.data.toList.drop (i + 1))).map (fun p => ((out ++ [s[i]'hi0]) ++ p.1, p.2))) := Lib.hid (by
          rw [HD.out, HG1.out, rdText_cons hz, Option.map_map]
          congr 1
          funext p
          simp)
        clear hz hzn HD HG1 HG2
        go_wp2_with (at_builtin; refine Hid.out ?_)
        refine Lib.hid ?_
        refine wpList_append_own _ rfl _ _ 115 rfl w.heap.size 5 i0 (.int .u8 0) 1 1 undBs hi hz0 hz1 hz2 rfl (by decide) _ _ _ rfl (HO.out.alloc _) ⟨wr.heap.size, 0, none⟩ 1 1 [.int .u8 ((s[i]'hi0).toNat : Int)] rfl rfl (cells_new _ _ _) (by intro u hu; simp at hu; subst hu; rfl) (by unfold maxLen; omega) (by omega) (by simp; omega) ?_
        intro v' w3 hown' hgrow _
        have HO3 : Hid (w3.ownsRow w.heap.size 5 1 v' (out ++ [s[i]'hi0]).length (bytesV (out ++ [s[i]'hi0]))) := Lib.hid (by
          rw [List.length_append, bytesV_append]
          exact hown')
        have HB3 : Hid (Below w.heap.size w w3) := Lib.hid ((HBw.out.alloc hsz _).grown hgrow (by simp; omega) (fun k hk => HO.out.block_ge hk))
        have HL3 : Hid ((out ++ [s[i]'hi0]).length ≤ i + 1) := Lib.hid (by simp; omega)
        clear hown' hgrow
        go_wp2_with fail
        go_roundw
        case rel => exact ⟨i + 1, out ++ [s[i]'hi0], by omega, by go_num, HL3.out, HD3.out, HO3.out, HB3.out⟩
        case measure => simp [intOf]; omega
    · have HE : Hid (res = ([], none)) := Lib.hid (by
        rw [HR.out, opText_of, HD.out, rdText_short _ (by simp; omega)]
        rfl)
      have hlt2 : ¬ ((i : Int) + 1 < (s.size : Int)) := by omega
      have hlt3 : decide ((i : Int) + 1 < (s.size : Int)) = false := by simp; omega
      have hlt4 : decide (i + 1 < s.size) = false := by simp; omega
      clear HD
      go_wp2_with fail
      refine (qfail_any g _ _ (H.out.below HBw.out hg)).mono ?_
      rintro e w1 ⟨rfl, h1, h2⟩
      have H1 := Lib.hid h1
      have H2 := Lib.hid (grown_trans (grownBy_of_below HBw.out (some g)) h2)
      clear h1 h2
      go_wp2_with fail
      go_ret
      exact ⟨ret_str (by rw [HE.out]), by rw [HE.out]; exact H1.out, H2.out⟩
end Go.Proofs.YtgjklfddoechpaaGreatDoor
/- bourneref02: a reader's Text, More, Nums, Texts. -/
namespace Go.Proofs.YtgjklfddoechpaaGreatDoor
open Go.RowKit
set_option maxRecDepth 100000 in
set_option maxHeartbeats 1000000 in
theorem qText_any (g : Nat) (st : RSt) (w : World) (h : QAt g st w) :
    Calls Tryz.prog 46 #[.pointer (some ⟨g, 0, none⟩)] w fun e w' => e = .returned (.string ⟨(opText st).1.toArray⟩) ∧ QAt g (opText st).2 w' ∧ w.grownBy w' (some g) := by
  have h' := h
  obtain ⟨rest, bad, hb, hr, he, hst⟩ := h
  cases bad with
  | false =>
    simp only [Bool.false_eq_true, if_false] at hst
    subst hst
    exact qText_alive g rest w h' hr hb
  | true =>
    simp only [if_true] at hst
    subst hst
    have hre := he rfl
    subst hre
    have c0 : w.cell? ⟨g, 0, none⟩ = some (.string ⟨#[]⟩) := by rw [Lib.cell_of_heap hb]; rfl
    have H := Lib.hid h'
    clear hb h' he
    go_enter Tryz.func46, Tryz.ntmps46
    go_wp2_with fail
    go_loopw [4] (fun iv wr => iv = .int .i64 0 ∧ wr = w) (fun _ _ => 0)
    case atStart => exact ⟨rfl, rfl⟩
    case round =>
      obtain ⟨rfl, rfl⟩ := hrel
      go_wp2_with fail
      refine (qfail_any g _ _ H.out).mono ?_
      rintro e w1 ⟨rfl, h1, h2⟩
      have H1 := Lib.hid h1
      have H2 := Lib.hid h2
      clear h1 h2
      go_wp2_with fail
      go_ret
      exact ⟨rfl, H1.out, H2.out⟩
/-- More: whether an element follows, and what is left -/
def opMore (st : RSt) : Bool × RSt :=
  match st with
  | none => (false, none)
  | some [] => (false, none)
  | some (c :: t) => if c = 0 then (false, some t) else if c = 1 then (true, some t) else (false, none)
def stMeas (st : RSt) : Nat := match st with | none => 0 | some s => s.length + 1
theorem qBad {g : Nat} {st : RSt} {w : World} (h : QAt g st w) : w.cell? ⟨g, 1, none⟩ = some (.bool (st == none)) := by
  obtain ⟨rest, bad, hb, _, _, rfl⟩ := h
  rw [Lib.cell_of_heap hb]
  cases bad <;> rfl

end Go.Proofs.YtgjklfddoechpaaGreatDoor
