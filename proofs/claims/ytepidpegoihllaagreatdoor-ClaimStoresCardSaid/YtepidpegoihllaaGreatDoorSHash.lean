/- Texts merged: WRead WText SHash -/
import Derived.OneCell
import Derived.Test.YtepidpegoihllaaGreatDoorWLead
import Derived.Outline
import Derived.Test.YtepidpegoihllaaGreatDoorSIn
import Derived.Test.YtepidpegoihllaaGreatDoorWDig
import Derived.Test.YtepidpegoihllaaGreatDoorNPow
/- Package wire: a reader: Open, Int, Num, Text, Left, Done. -/
namespace Go.Proofs.YtepidpegoihllaaGreatDoor
open Go.RowKit
/-- block g holds a reader that holds st -/
def RdAt (g : Nat) (st : RSt) (w : World) : Prop :=
  ∃ (rest : ByteArray) (bad : Bool), w.heap[g]? = some (.cells #[.string rest, .bool bad] 126 (0, 0)) ∧ rest.size ≤ 2000000 ∧ st = if bad then none else some rest.data.toList
theorem two_set0 {w : World} {g : Nat} {a b v : Value} {t : TypeId} (h : w.heap[g]? = some (.cells #[a, b] t (0, 0))) : (w.setCell ⟨g, 0, none⟩ v).heap[g]? = some (.cells #[v, b] t (0, 0)) := by
  have hlt := lt_of_block h
  have h' : w.heap[g] = .cells #[a, b] t (0, 0) := by simpa [Array.getElem?_eq_getElem hlt] using h
  show (w.heap.modify g _)[g]? = _
  rw [Array.getElem?_eq_getElem (by simpa using hlt), Array.getElem_modify_self, h']
  rfl
theorem two_set1 {w : World} {g : Nat} {a b v : Value} {t : TypeId} (h : w.heap[g]? = some (.cells #[a, b] t (0, 0))) : (w.setCell ⟨g, 1, none⟩ v).heap[g]? = some (.cells #[a, v] t (0, 0)) := by
  have hlt := lt_of_block h
  have h' : w.heap[g] = .cells #[a, b] t (0, 0) := by simpa [Array.getElem?_eq_getElem hlt] using h
  show (w.heap.modify g _)[g]? = _
  rw [Array.getElem?_eq_getElem (by simpa using hlt), Array.getElem_modify_self, h']
  rfl
theorem extract_toList (s : ByteArray) (q : Nat) : (s.extract q s.size).data.toList = s.data.toList.drop q := by
  have h : (s.data.toList.drop q).length ≤ s.size - q := by simp
  rw [ByteArray.data_extract, Array.toList_extract, List.extract, List.take_of_length_le h]
theorem grown_refl (w : World) (row : Option Nat) : w.grownBy w row := ⟨rfl, rfl, rfl, Nat.le_refl _, fun _ _ _ => rfl⟩
theorem grown_set {w w1 : World} {g o : Nat} (h : w.grownBy w1 (some g)) (v : Value) : w.grownBy (w1.setCell ⟨g, o, none⟩ v) (some g) :=
  ⟨h.os, h.tape, h.output, by rw [World.size_setCell]; exact h.size, fun k hk hne => by
    rw [Below.heap_setCell _ _ _ _ (fun e => hne (by rw [e]))]
    exact h.block k hk hne⟩
theorem RdAt.grown {g : Nat} {st : RSt} {w w' : World} {row : Option Nat} (h : RdAt g st w) (hg : w.grownBy w' row) (hne : some g ≠ row) : RdAt g st w' := by
  obtain ⟨rest, bad, hb, h1, h2⟩ := h
  exact ⟨rest, bad, (hg.block g (blk_lt hb) hne).trans hb, h1, h2⟩
theorem RdAt.below {g : Nat} {st : RSt} {w w' : World} {B : Nat} (h : RdAt g st w) (hb : Below B w w') (hB : g < B) : RdAt g st w' := by
  obtain ⟨rest, bad, hk, h1, h2⟩ := h
  exact ⟨rest, bad, blk_below hk hb hB, h1, h2⟩
theorem opInt_lead (s : List UInt8) : opInt (some s) = if (leadP s).2 = 0 then (0, none) else ((leadP s).1, some (s.drop (leadP s).2)) := by
  unfold opInt leadP
  cases h : rdInt s with
  | none => simp [h]
  | some p =>
    obtain ⟨n, r⟩ := p
    have h1 := rdInt_lt h
    obtain ⟨h2, _⟩ := intL_rdInt h
    simp only [h]
    rw [if_neg (by omega)]
    have h3 : s.length = (intL n).length + r.length := by rw [h2, List.length_append]
    have h4 : s.length - r.length = (intL n).length := by omega
    rw [h4, h2, List.drop_left]
theorem leadP_le (s : List UInt8) : (leadP s).2 ≤ s.length := by
  unfold leadP
  cases h : rdInt s with
  | none => simp
  | some p => simp
set_option maxRecDepth 100000 in
set_option maxHeartbeats 2000000 in
theorem open_any (s : ByteArray) (w : World) (hs : s.size ≤ 2000000) :
    Calls Tryz.prog 44 #[.string s] w fun e w' => e = .returned (.pointer (some ⟨w.heap.size, 0, none⟩)) ∧ RdAt w.heap.size (some s.data.toList) w' ∧ Below w.heap.size w w' := by
  go_enter Tryz.func44, Tryz.ntmps44
  go_wp2_with fail
  go_ret
  exact ⟨rfl, ⟨s, false, heap_alloc_new _ _, hs, rfl⟩, (Below.refl _ _).alloc (Nat.le_refl _) _⟩
set_option maxRecDepth 100000 in
set_option maxHeartbeats 2000000 in
theorem rdInt_any (g : Nat) (st : RSt) (w : World) (h : RdAt g st w) :
    Calls Tryz.prog 45 #[.pointer (some ⟨g, 0, none⟩)] w fun e w' => e = .returned (.int .i64 (opInt st).1) ∧ RdAt g (opInt st).2 w' ∧ w.grownBy w' (some g) := by
  obtain ⟨rest, bad, hb, hr, rfl⟩ := h
  have c0 : w.cell? ⟨g, 0, none⟩ = some (.string rest) := by rw [Lib.cell_of_heap hb]; rfl
  have c1 : w.cell? ⟨g, 1, none⟩ = some (.bool bad) := by rw [Lib.cell_of_heap hb]; rfl
  have f0 : w.frozen? ⟨g, 0, none⟩ = false := Lib.frozen_of_heap hb 0
  have f1 : w.frozen? ⟨g, 1, none⟩ = false := Lib.frozen_of_heap hb 1
  have HB := Lib.hid hb
  clear hb
  cases bad with
  | true =>
    go_enter Tryz.func45, Tryz.ntmps45
    go_wp2_with fail
    go_ret
    exact ⟨rfl, ⟨rest, true, HB.out, hr, rfl⟩, grown_refl _ _⟩
  | false =>
    have HO := Lib.hid (opInt_lead rest.data.toList)
    have hle := leadP_le rest.data.toList
    have hl : rest.data.toList.length = rest.size := by simp
    by_cases hz : (leadP rest.data.toList).2 = 0
    · have HE : Hid (opInt (some rest.data.toList) = (0, none)) := Lib.hid (by rw [HO.out, if_pos hz])
      have hz2 : (((leadP rest.data.toList).2 : Int) == 0) = true := beq_iff_eq.2 (by omega)
      clear HO hz
      simp only [Bool.false_eq_true, if_false, HE.out]
      go_enter Tryz.func45, Tryz.ntmps45
      go_wp2_with fail
      refine (leading_any rest _ (by omega)).mono ?_
      rintro e w' ⟨rfl, rfl⟩
      go_wp2_with fail
      go_ret
      exact ⟨rfl, ⟨rest, true, two_set1 HB.out, hr, rfl⟩, grown_set (grown_refl _ _) _⟩
    · have HE : Hid (opInt (some rest.data.toList) = ((leadP rest.data.toList).1, some (rest.data.toList.drop (leadP rest.data.toList).2))) := Lib.hid (by rw [HO.out, if_neg hz])
      have hz2 : (((leadP rest.data.toList).2 : Int) == 0) = false := beq_eq_false_iff_ne.2 (by omega)
      clear HO hz
      simp only [Bool.false_eq_true, if_false, HE.out]
      go_enter Tryz.func45, Tryz.ntmps45
      go_wp2_with fail
      refine (leading_any rest _ (by omega)).mono ?_
      rintro e w' ⟨rfl, rfl⟩
      go_wp2_with fail
      go_ret
      refine ⟨rfl, ⟨_, false, two_set0 HB.out, by rw [ByteArray.size_extract]; omega, ?_⟩, grown_set (grown_refl _ _) _⟩
      rw [extract_toList]
      rfl
set_option maxRecDepth 100000 in
set_option maxHeartbeats 2000000 in
theorem rdDone_any (g : Nat) (st : RSt) (w : World) (h : RdAt g st w) :
    Calls Tryz.prog 47 #[.pointer (some ⟨g, 0, none⟩)] w fun e w' => e = .returned (.bool (doneOf st)) ∧ w = w' := by
  obtain ⟨rest, bad, hb, hr, rfl⟩ := h
  have c0 : w.cell? ⟨g, 0, none⟩ = some (.string rest) := by rw [Lib.cell_of_heap hb]; rfl
  have c1 : w.cell? ⟨g, 1, none⟩ = some (.bool bad) := by rw [Lib.cell_of_heap hb]; rfl
  clear hb
  cases bad with
  | true =>
    go_enter Tryz.func47, Tryz.ntmps47
    go_wp2_with fail
    go_ret
    exact ⟨rfl, rfl⟩
  | false =>
    have e0 : rest.toList = rest.data.toList := ByteArray.toList_eq _
    cases hq : rest.data.toList with
    | nil =>
      have h1 : rest.toList = [] := by rw [e0, hq]
      have h2 : (rest.toList == []) = true := by rw [h1]; rfl
      have e : doneOf (some []) = true := rfl
      simp only [Bool.false_eq_true, if_false, e]
      clear e0 hq h1 e
      go_enter Tryz.func47, Tryz.ntmps47
      go_wp2_with fail
      go_ret
      exact ⟨rfl, rfl⟩
    | cons x l =>
      have h1 : rest.toList ≠ [] := by rw [e0, hq]; simp
      have h2 : (rest.toList == []) = false := beq_eq_false_iff_ne.2 h1
      have e : doneOf (some (x :: l)) = false := rfl
      simp only [Bool.false_eq_true, if_false, e]
      clear e0 hq h1 e
      go_enter Tryz.func47, Tryz.ntmps47
      go_wp2_with fail
      go_ret
      exact ⟨rfl, rfl⟩
end Go.Proofs.YtepidpegoihllaaGreatDoor
/- Package wire: a reader's Text. -/
namespace Go.Proofs.YtepidpegoihllaaGreatDoor
open Go.RowKit
theorem rdText_cons {c : UInt8} (h : c ≠ 0) (t : List UInt8) : rdText (c :: t) = (rdText t).map fun p => (c :: p.1, p.2) := by
  cases t with
  | nil => rfl
  | cons d t => rw [rdText, if_neg h]
theorem rdText_run (a t : List UInt8) (h : ∀ x ∈ a, x ≠ 0) : rdText (a ++ t) = (rdText t).map fun p => (a ++ p.1, p.2) := by
  induction a with
  | nil => simp
  | cons c a ih =>
    rw [List.cons_append, rdText_cons (h c (by simp)), ih (fun x hx => h x (by simp [hx])), Option.map_map]
    rfl
theorem rdText_miss (s : List UInt8) (h : Lib.indexByte s 0 = -1) : rdText s = none := by
  have h1 := rdText_run s [] (fun x hx e => by
    obtain ⟨k, hk⟩ := List.mem_iff_getElem?.1 hx
    exact Lib.indexByte_none h k (by rw [hk, e]))
  rw [List.append_nil] at h1
  rw [h1]
  rfl
theorem take_ne (s : List UInt8) (o : Nat) (h : ∀ k, k < o → s[k]? ≠ some 0) : ∀ x ∈ s.take o, x ≠ 0 := by
  intro x hx e
  obtain ⟨k, hk⟩ := List.mem_iff_getElem?.1 hx
  rw [List.getElem?_take] at hk
  split at hk
  · next hlt => exact h k hlt (by rw [hk, e])
  · cases hk
theorem rdText_last (s : List UInt8) (o : Nat) (h : Lib.indexByte s 0 = (o : Int)) (hl : o + 1 = s.length) : rdText s = none := by
  obtain ⟨h1, h2⟩ := Lib.indexByte_some h
  have e : s = s.take o ++ [0] := by
    have := List.take_append_drop o s
    rw [List.drop_eq_getElem_cons (by omega), List.drop_eq_nil_of_le (by omega)] at this
    rw [List.getElem?_eq_getElem (by omega)] at h1
    rw [Option.some.inj h1] at this
    exact this.symm
  rw [e, rdText_run _ _ (take_ne s o h2)]
  rfl
theorem rdText_hit (s : List UInt8) (o : Nat) (d : UInt8) (h : Lib.indexByte s 0 = (o : Int)) (hd : s[o + 1]? = some d) :
    rdText s = if d = 1 then some (s.take o, s.drop (o + 2)) else if d = 255 then (rdText (s.drop (o + 2))).map (fun p => ((s.take o ++ [0]) ++ p.1, p.2)) else none := by
  obtain ⟨h1, h2⟩ := Lib.indexByte_some h
  have hl : o + 1 < s.length := (List.getElem?_eq_some_iff.1 hd).1
  have e : s.take o ++ (0 :: d :: s.drop (o + 2)) = s := by
    have := List.take_append_drop o s
    rw [List.drop_eq_getElem_cons (by omega), List.drop_eq_getElem_cons (by omega)] at this
    rw [List.getElem?_eq_getElem (by omega)] at h1 hd
    rw [Option.some.inj h1, Option.some.inj hd] at this
    exact this
  have r := rdText_run (s.take o) (0 :: d :: s.drop (o + 2)) (take_ne s o h2)
  rw [e] at r
  rw [r, rdText, if_pos rfl]
  by_cases h3 : d = 1
  · rw [if_pos h3, if_pos h3]
    simp
  · rw [if_neg h3, if_neg h3]
    by_cases h4 : d = 255
    · rw [if_pos h4, if_pos h4, Option.map_map]
      congr 1
      funext p
      simp
    · rw [if_neg h4, if_neg h4]
      rfl
theorem indexByte_le (s : List UInt8) (c : UInt8) (o : Nat) (h : Lib.indexByte s c = (o : Int)) : o < s.length := (List.getElem?_eq_some_iff.1 (Lib.indexByte_some h).1).1
theorem opText_of {s : List UInt8} : opText (some s) = match rdText s with | none => ([], none) | some (n, r') => (n, some r') := rfl
theorem take_toList (s : ByteArray) (o : Nat) : (s.extract 0 o).data.toList = s.data.toList.take o := by
  rw [ByteArray.data_extract, Array.toList_extract, List.extract]
  simp
theorem strCells_list (s : ByteArray) : Lib.strCells s = Lib.byteCells s.data.toList := strCells_byteCells s.data.toList
theorem ret_str {a b : List UInt8} (h : a = b) : Ending.returned (.string ⟨a.toArray⟩) = Ending.returned (.string ⟨b.toArray⟩) := by rw [h]
theorem rd_fail {g : Nat} {rest : ByteArray} {bad : Bool} {w wr : World} (hb : w.heap[g]? = some (.cells #[.string rest, .bool bad] 126 (0, 0))) (hr : rest.size ≤ 2000000) (h : w.grownBy wr none) :
    RdAt g none (wr.setCell ⟨g, 1, none⟩ (.bool true)) ∧ w.grownBy (wr.setCell ⟨g, 1, none⟩ (.bool true)) (some g) :=
  ⟨⟨rest, true, two_set1 ((h.block g (blk_lt hb) (by simp)).trans hb), hr, rfl⟩, grown_set ⟨h.os, h.tape, h.output, h.size, fun k hk _ => h.block k hk (by simp)⟩ _⟩
theorem isBuilder_set {T e : TypeId} {B b : Nat} {bs : List Value} {w : World} (h : Lib.IsBuilder T e B b bs w) {g o : Nat} (hg : g ≠ b) (hB : g < B) (v : Value) : Lib.IsBuilder T e B b bs (w.setCell ⟨g, o, none⟩ v) := by
  have h1 : ∀ p, Lib.BuilderAt T e B b p bs w → Lib.BuilderAt T e B b p bs (w.setCell ⟨g, o, none⟩ v) := by
    rintro p ⟨hB', u, hbk, hown, hne⟩
    exact ⟨hB', u, (Below.heap_setCell _ _ _ _ (fun e => hg e.symm)).trans hbk, ownsRow_setCell_below hown hB v, hne⟩
  exact h.imp (h1 _) (h1 _)
theorem rd_move {g : Nat} {rest cur : ByteArray} {w wr w2 : World} (hb : w.heap[g]? = some (.cells #[.string rest, .bool false] 126 (0, 0))) (hr : cur.size ≤ 2000000) (h : w.grownBy wr none) (h2 : Below w.heap.size (wr.setCell ⟨g, 0, none⟩ (.string cur)) w2) :
    RdAt g (some cur.data.toList) w2 ∧ w.grownBy w2 (some g) := by
  have hg := blk_lt hb
  refine ⟨⟨cur, false, blk_below (two_set0 ((h.block g hg (by simp)).trans hb)) h2 hg, hr, rfl⟩, ?_⟩
  have h3 : w.grownBy (wr.setCell ⟨g, 0, none⟩ (.string cur)) (some g) := grown_set ⟨h.os, h.tape, h.output, h.size, fun k hk _ => h.block k hk (by simp)⟩ _
  exact ⟨h2.os.trans h3.os, h2.tape.trans h3.tape, h2.output.trans h3.output, Nat.le_trans h3.size h2.size, fun k hk hne => (h2.block k hk).trans (h3.block k hk hne)⟩
set_option maxRecDepth 100000 in
set_option maxHeartbeats 2000000 in
theorem rdText_any (g : Nat) (st : RSt) (w : World) (h : RdAt g st w) :
    Calls Tryz.prog 46 #[.pointer (some ⟨g, 0, none⟩)] w fun e w' => e = .returned (.string ⟨(opText st).1.toArray⟩) ∧ RdAt g (opText st).2 w' ∧ w.grownBy w' (some g) := by
  obtain ⟨rest, bad, hb, hr, rfl⟩ := h
  have c0 : w.cell? ⟨g, 0, none⟩ = some (.string rest) := by rw [Lib.cell_of_heap hb]; rfl
  have c1 : w.cell? ⟨g, 1, none⟩ = some (.bool bad) := by rw [Lib.cell_of_heap hb]; rfl
  have hg := blk_lt hb
  have HB := Lib.hid hb
  clear hb
  cases bad with
  | true =>
    go_enter Tryz.func46, Tryz.ntmps46
    go_wp2_with fail
    go_ret
    exact ⟨rfl, ⟨rest, true, HB.out, hr, rfl⟩, grown_refl _ _⟩
  | false =>
    obtain ⟨res, hres⟩ : ∃ res, res = opText (some rest.data.toList) := ⟨_, rfl⟩
    simp only [Bool.false_eq_true, if_false, ← hres]
    have HR := Lib.hid hres
    clear hres
    go_enter Tryz.func46, Tryz.ntmps46
    go_wp2_with fail
    have hI := Lib.fresh_isBuilder 132 5 w
    have hB0 : Below w.heap.size w (w.alloc (.cells #[.pointer none, .slice none 0 0] 132)) := (Below.refl _ _).alloc (Nat.le_refl _) _
    have HI0 := Lib.hid hI
    have HB0 := Lib.hid hB0
    clear hI hB0
    generalize w.alloc (.cells #[.pointer none, .slice none 0 0] 132) = w0 at *
    go_loopw [4] (fun sv wr => ∃ (cur : ByteArray) (pre : List UInt8), sv = .string cur ∧ pre.length + cur.size ≤ rest.size ∧ rdText rest.data.toList = (rdText cur.data.toList).map (fun p => (pre ++ p.1, p.2)) ∧
      Lib.IsBuilder 132 5 w.heap.size w.heap.size (Lib.byteCells pre) wr ∧ Below w.heap.size w wr) (fun sv _ => match sv with | .string b => b.size | _ => 0)
    case atStart => exact ⟨rest, [], rfl, by simp, by simp, HI0.out, HB0.out⟩
    case round =>
      obtain ⟨cur, pre, rfl, hl, hrd, hI, hB⟩ := hrel
      clear HI0 HB0
      have HI := Lib.hid hI
      have HBw := Lib.hid hB
      have HD := Lib.hid hrd
      have hsz := hB.size
      have c1 : wr.cell? ⟨g, 1, none⟩ = some (.bool false) := (hB.cell (p := ⟨g, 1, none⟩) hg).trans (by rw [Lib.cell_of_heap HB.out]; rfl)
      have f1 : wr.frozen? ⟨g, 1, none⟩ = false := (hB.frozen (p := ⟨g, 1, none⟩) hg).trans (Lib.frozen_of_heap HB.out 1)
      have hcl : cur.data.toList.length = cur.size := by simp
      clear hI hB hrd c0
      have hge := Lib.indexByte_ge cur.data.toList 0
      obtain ⟨i, hi⟩ : ∃ i, Lib.indexByte cur.data.toList 0 = i := ⟨_, rfl⟩
      rw [hi] at hge
      by_cases hm : i = -1
      · subst hm
        have HE : Hid (res = ([], none)) := Lib.hid (by
          have := rdText_miss _ hi
          rw [HR.out, opText_of, HD.out, this]
          rfl)
        have HIx := Lib.hid hi
        clear hi
        go_wp2_with fail
        refine (Tryz.strings_IndexByte cur 0 _).mono ?_
        rintro e w' ⟨he, rfl⟩
        rw [show (0 : Int).toNat.toUInt8 = 0 from rfl, HIx.out] at he
        subst he
        go_wp2_with fail
        go_ret
        exact ⟨ret_str (by rw [HE.out]), by rw [HE.out]; exact rd_fail HB.out hr (grownBy_of_below HBw.out none)⟩
      · obtain ⟨o, rfl⟩ : ∃ o : Nat, i = (o : Int) := ⟨i.toNat, by omega⟩
        have hol := indexByte_le _ _ _ hi
        by_cases hlast : o + 1 = cur.size
        · have HE : Hid (res = ([], none)) := Lib.hid (by
            have := rdText_last _ o hi (by omega)
            rw [HR.out, opText_of, HD.out, this]
            rfl)
          have HIx := Lib.hid hi
          have ho2 : ((o : Int) + 1 == (cur.size : Int)) = true := beq_iff_eq.2 (by omega)
          clear hi
          go_wp2_with fail
          refine (Tryz.strings_IndexByte cur 0 _).mono ?_
          rintro e w' ⟨he, rfl⟩
          rw [show (0 : Int).toNat.toUInt8 = 0 from rfl, HIx.out] at he
          subst he
          go_wp2_with fail
          go_ret
          exact ⟨ret_str (by rw [HE.out]), by rw [HE.out]; exact rd_fail HB.out hr (grownBy_of_below HBw.out none)⟩
        · have ho3 : o + 1 < cur.size := by omega
          have hd : cur.data.toList[o + 1]? = some (cur[o + 1]'ho3) := by
            rw [List.getElem?_eq_getElem (by omega)]
            rfl
          have HT := Lib.hid (rdText_hit _ o _ hi hd)
          have HIx := Lib.hid hi
          have ho2 : ((o : Int) + 1 == (cur.size : Int)) = false := beq_eq_false_iff_ne.2 (by omega)
          have hxl : (cur.extract 0 o).size = o := by rw [ByteArray.size_extract]; omega
          have HX := Lib.hid (take_toList cur o)
          have HY := Lib.hid (extract_toList cur (o + 2))
          have hyl : (cur.extract (o + 2) cur.size).size = cur.size - (o + 2) := by rw [ByteArray.size_extract]; omega
          have HTl : Hid ((cur.data.toList.take o).length = o) := Lib.hid (by rw [List.length_take]; omega)
          have hdl := cur[o + 1].toNat_lt
          clear hi hd
          go_wp2_with fail
          refine (Tryz.strings_IndexByte cur 0 _).mono ?_
          rintro e w' ⟨he, rfl⟩
          rw [show (0 : Int).toNat.toUInt8 = 0 from rfl, HIx.out] at he
          subst he
          go_wp2_with fail
          refine (writeString_any w.heap.size w.heap.size _ _ _ HI.out (by rw [Lib.byteCells_length, hxl]; omega) hsz).mono ?_
          rintro e w1 ⟨rfl, hI1, hB1⟩
          rw [strCells_list, HX.out, ← byteCells_append] at hI1
          have HI1 := Lib.hid hI1
          have HB1 := Lib.hid (HBw.out.trans hB1)
          have hsz1 := HB1.out.size
          clear c1 f1
          have c1 : w1.cell? ⟨g, 1, none⟩ = some (.bool false) := (HB1.out.cell (p := ⟨g, 1, none⟩) hg).trans (by rw [Lib.cell_of_heap HB.out]; rfl)
          have f1 : w1.frozen? ⟨g, 1, none⟩ = false := (HB1.out.frozen (p := ⟨g, 1, none⟩) hg).trans (Lib.frozen_of_heap HB.out 1)
          have c0 : w1.cell? ⟨g, 0, none⟩ = some (.string rest) := (HB1.out.cell (p := ⟨g, 0, none⟩) hg).trans (by rw [Lib.cell_of_heap HB.out]; rfl)
          have f0 : w1.frozen? ⟨g, 0, none⟩ = false := (HB1.out.frozen (p := ⟨g, 0, none⟩) hg).trans (Lib.frozen_of_heap HB.out 0)
          clear hI1 hB1
          by_cases d1 : cur[o + 1] = 1
          · have d1n : cur[o + 1].toNat = 1 := by rw [d1]; rfl
            have e1 : ((cur[o + 1].toNat : Int) == 1) = true := beq_iff_eq.2 (by omega)
            have HE : Hid (res = (pre ++ cur.data.toList.take o, some (cur.extract (o + 2) cur.size).data.toList)) := Lib.hid (by
              rw [HR.out, opText_of, HD.out, HT.out, if_pos d1, HY.out]
              rfl)
            clear d1 d1n
            go_wp2_with fail
            refine (Tryz.Builder_String_any _ _ _ _ (isBuilder_set (Or.inr HI1.out) (Nat.ne_of_lt hg) hg _) (by rw [World.size_setCell]; exact hsz1)).mono ?_
            rintro e w2 ⟨rfl, hb⟩
            have HB2 := Lib.hid hb
            clear hb
            go_wp2_with fail
            go_ret
            exact ⟨ret_str (by rw [HE.out]), by rw [HE.out]; exact rd_move HB.out (by rw [hyl]; omega) (grownBy_of_below HB1.out none) HB2.out⟩
          · have d1n : ¬ cur[o + 1].toNat = 1 := fun e => d1 (UInt8.toNat_inj.1 (by rw [e]; rfl))
            have e1 : ((cur[o + 1].toNat : Int) == 1) = false := beq_eq_false_iff_ne.2 (by omega)
            by_cases d2 : cur[o + 1] = 255
            · have d2n : cur[o + 1].toNat = 255 := by rw [d2]; rfl
              have e2 : ((cur[o + 1].toNat : Int) != 255) = false := by rw [bne, beq_iff_eq.2 (show (cur[o + 1].toNat : Int) = 255 by omega)]; rfl
              have HE : Hid (rdText rest.data.toList = (rdText (cur.extract (o + 2) cur.size).data.toList).map (fun p => ((pre ++ (cur.data.toList.take o ++ [0])) ++ p.1, p.2))) := Lib.hid (by
                rw [HD.out, HT.out, if_neg d1, if_pos d2, HY.out, Option.map_map]
                congr 1
                funext p
                simp)
              clear d1 d1n d2 d2n
              go_wp2_with fail
              refine (writeByte_any w.heap.size w.heap.size _ 0 _ (Or.inr HI1.out) (by rw [Lib.byteCells_length, List.length_append, HTl.out]; omega) hsz1).mono ?_
              rintro e w2 ⟨rfl, hI2, hB2⟩
              have HI2 : Hid (Lib.IsBuilder 132 5 w.heap.size w.heap.size (Lib.byteCells (pre ++ (cur.data.toList.take o ++ [0]))) w2) := by
                refine Lib.hid (Or.inr ?_)
                have e : Lib.byteCells (pre ++ (cur.data.toList.take o ++ [0])) = Lib.byteCells (pre ++ cur.data.toList.take o) ++ [.int .u8 0] := by simp [Lib.byteCells]
                rw [e]
                exact hI2
              have HB2 := Lib.hid (HB1.out.trans hB2)
              have HL2 : Hid ((pre ++ (cur.data.toList.take o ++ [0])).length + (cur.extract (o + 2) cur.size).size ≤ rest.size) := Lib.hid (by
                rw [List.length_append, List.length_append, HTl.out, hyl]
                simp
                omega)
              have HM : Hid ((cur.extract (o + 2) cur.size).size < cur.size) := Lib.hid (by omega)
              clear hI2 hB2
              go_wp2_with fail
              go_roundw
              case rel => exact ⟨_, _, rfl, HL2.out, HE.out, HI2.out, HB2.out⟩
              case measure => exact HM.out
            · have d2n : ¬ cur[o + 1].toNat = 255 := fun e => d2 (UInt8.toNat_inj.1 (by rw [e]; rfl))
              have e3 : ((cur[o + 1].toNat : Int) != 255) = true := by rw [bne, beq_eq_false_iff_ne.2 (show ¬ (cur[o + 1].toNat : Int) = 255 by omega)]; rfl
              have HE : Hid (res = ([], none)) := Lib.hid (by
                rw [HR.out, opText_of, HD.out, HT.out, if_neg d1, if_neg d2]
                rfl)
              clear d1 d2 d1n d2n
              go_wp2_with fail
              go_ret
              exact ⟨ret_str (by rw [HE.out]), by rw [HE.out]; exact rd_fail HB.out hr (grownBy_of_below HB1.out none)⟩
end Go.Proofs.YtepidpegoihllaaGreatDoor
/- sign.hash, nonce and challenge. -/
namespace Go.Proofs.YtepidpegoihllaaGreatDoor
open Go.RowKit
theorem join_empty : ∀ l : List (List UInt8), Lib.join l [] = l.flatten
  | [] => rfl
  | x :: r => by
    rw [Lib.join_cons, List.flatten_cons]
    unfold Lib.joinTail
    simp
set_option maxRecDepth 100000 in
set_option maxHeartbeats 2000000 in
theorem hash_any (bk : Nat) (xs : List ByteArray) (w : World) (hg : Glob w) (hcells : ∀ (j : Nat) x, xs[j]? = some x → w.cell? ⟨bk, 0 + j, none⟩ = some (.string x)) (hbk : bk < w.heap.size) (hN : xs.length ≤ 100) (hlen : (xs.map (·.data.toList)).flatten.length ≤ 100000000) :
    Calls Tryz.prog 40 #[.slice (some ⟨bk, 0, none⟩) xs.length xs.length] w fun e w' => e = .returned (.int .i64 (shortL (xs.map (·.data.toList)).flatten : Nat)) ∧ Below w.heap.size w w' := by
  have HG := Lib.hid hg
  have HC := Lib.hid hcells
  have hj : (Lib.join (xs.map (·.data.toList)) (ByteArray.mk #[]).data.toList) = (xs.map (·.data.toList)).flatten := join_empty _
  have HJ := Lib.hid hj
  obtain ⟨F, hF⟩ : ∃ F, F = (xs.map (·.data.toList)).flatten := ⟨_, rfl⟩
  rw [← hF] at HJ hlen ⊢
  obtain ⟨S, hS⟩ : ∃ S : ByteArray, S = ⟨F.toArray⟩ := ⟨_, rfl⟩
  have HL : Hid (S.size ≤ 100000000) := Lib.hid (by rw [hS]; show F.toArray.size ≤ _; rw [List.size_toArray]; exact hlen)
  have HL2 := Lib.hid hlen
  have HS : Hid (S.data.toList = F) := Lib.hid (by rw [hS])
  have HSd := Lib.hid hS
  obtain ⟨z, hz⟩ : ∃ z, z = shortL F := ⟨_, rfl⟩
  have HZ := Lib.hid hz
  rw [← hz]
  clear hg hcells hj hlen hF hS hz
  go_enter Tryz.func40, Tryz.ntmps40
  go_wp2_with fail
  refine (Tryz.strings_Join bk 0 xs.length xs ⟨#[]⟩ _ HC.out hbk (by omega) (Nat.le_refl _) (by rw [HJ.out]; exact Nat.le_trans HL2.out (by decide))).mono ?_
  rintro e w1 ⟨rfl, hb⟩
  rw [HJ.out, ← HSd.out]
  have HG1 := Lib.hid (HG.out.below hb HG.out.size)
  have HB1 := Lib.hid hb
  clear hb
  go_wp2_with fail
  refine (short_any S _ HG1.out HL.out).mono ?_
  rintro e w2 ⟨rfl, hb⟩
  rw [HS.out, ← HZ.out]
  have HB2 := Lib.hid (HB1.out.trans (hb.mono HB1.out.size))
  clear hb
  go_wp2_with fail
  go_ret
  exact ⟨rfl, HB2.out⟩
end Go.Proofs.YtepidpegoihllaaGreatDoor
