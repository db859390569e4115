/- Package wire: a reader: Open, Int, Num, Text, Left, Done. -/
import Derived.Test.YtgjklfddoechpaaGreatDoorWLead
import Derived.OneCell
namespace Go.Proofs.YtgjklfddoechpaaGreatDoor
open Go.RowKit
/-- block g holds a reader that holds st -/
def RdAt (g : Nat) (st : RSt) (w : World) : Prop :=
  ∃ (rest : ByteArray) (bad : Bool), w.heap[g]? = some (.cells #[.string rest, .bool bad] 111 (0, 0)) ∧ rest.size ≤ 2000000 ∧ st = if bad then none else some rest.data.toList
theorem two_set0 {w : World} {g : Nat} {a b v : Value} {t : TypeId} (h : w.heap[g]? = some (.cells #[a, b] t (0, 0))) : (w.setCell ⟨g, 0, none⟩ v).heap[g]? = some (.cells #[v, b] t (0, 0)) := by
  have hlt := lt_of_block h
  have h' : w.heap[g] = .cells #[a, b] t (0, 0) := by simpa [Array.getElem?_eq_getElem hlt] using h
  show (w.heap.modify g _)[g]? = _
  rw [Array.getElem?_eq_getElem (by simpa using hlt), Array.getElem_modify_self, h']
  rfl
theorem two_set1 {w : World} {g : Nat} {a b v : Value} {t : TypeId} (h : w.heap[g]? = some (.cells #[a, b] t (0, 0))) : (w.setCell ⟨g, 1, none⟩ v).heap[g]? = some (.cells #[a, v] t (0, 0)) := by
  have hlt := lt_of_block h
  have h' : w.heap[g] = .cells #[a, b] t (0, 0) := by simpa [Array.getElem?_eq_getElem hlt] using h
  show (w.heap.modify g _)[g]? = _
  rw [Array.getElem?_eq_getElem (by simpa using hlt), Array.getElem_modify_self, h']
  rfl
theorem extract_toList (s : ByteArray) (q : Nat) : (s.extract q s.size).data.toList = s.data.toList.drop q := by
  have h : (s.data.toList.drop q).length ≤ s.size - q := by simp
  rw [ByteArray.data_extract, Array.toList_extract, List.extract, List.take_of_length_le h]
theorem grown_refl (w : World) (row : Option Nat) : w.grownBy w row := ⟨rfl, rfl, rfl, Nat.le_refl _, fun _ _ _ => rfl⟩
theorem grown_set {w w1 : World} {g o : Nat} (h : w.grownBy w1 (some g)) (v : Value) : w.grownBy (w1.setCell ⟨g, o, none⟩ v) (some g) :=
  ⟨h.os, h.tape, h.output, by rw [World.size_setCell]; exact h.size, fun k hk hne => by
    rw [Below.heap_setCell _ _ _ _ (fun e => hne (by rw [e]))]
    exact h.block k hk hne⟩
theorem grown_below {w w1 w2 : World} {row : Option Nat} (h : w.grownBy w1 row) (hb : Below w1.heap.size w1 w2) : w.grownBy w2 row :=
  ⟨hb.os.trans h.os, hb.tape.trans h.tape, hb.output.trans h.output, Nat.le_trans h.size hb.size, fun k hk hne => (hb.block k (Nat.lt_of_lt_of_le hk h.size)).trans (h.block k hk hne)⟩
theorem grown_trans {w w1 w2 : World} {row : Option Nat} (h : w.grownBy w1 row) (hb : w1.grownBy w2 row) : w.grownBy w2 row :=
  ⟨hb.os.trans h.os, hb.tape.trans h.tape, hb.output.trans h.output, Nat.le_trans h.size hb.size, fun k hk hne => (hb.block k (Nat.lt_of_lt_of_le hk h.size) hne).trans (h.block k hk hne)⟩
theorem RdAt.grown {g : Nat} {st : RSt} {w w' : World} {row : Option Nat} (h : RdAt g st w) (hg : w.grownBy w' row) (hne : some g ≠ row) : RdAt g st w' := by
  obtain ⟨rest, bad, hb, h1, h2⟩ := h
  exact ⟨rest, bad, (hg.block g (blk_lt hb) hne).trans hb, h1, h2⟩
theorem RdAt.below {g : Nat} {st : RSt} {w w' : World} {B : Nat} (h : RdAt g st w) (hb : Below B w w') (hB : g < B) : RdAt g st w' := by
  obtain ⟨rest, bad, hk, h1, h2⟩ := h
  exact ⟨rest, bad, blk_below hk hb hB, h1, h2⟩
theorem opInt_lead (s : List UInt8) : opInt (some s) = if (leadP s).2 = 0 then (0, none) else ((leadP s).1, some (s.drop (leadP s).2)) := by
  unfold opInt leadP
  cases h : rdInt s with
  | none => simp [h]
  | some p =>
    obtain ⟨n, r⟩ := p
    have h1 := rdInt_lt h
    obtain ⟨h2, _⟩ := intL_rdInt h
    simp only [h]
    rw [if_neg (by omega)]
    have h3 : s.length = (intL n).length + r.length := by rw [h2, List.length_append]
    have h4 : s.length - r.length = (intL n).length := by omega
    rw [h4, h2, List.drop_left]
theorem leadP_le (s : List UInt8) : (leadP s).2 ≤ s.length := by
  unfold leadP
  cases h : rdInt s with
  | none => simp
  | some p => simp
set_option maxRecDepth 100000 in
set_option maxHeartbeats 2000000 in
theorem open_any (s : ByteArray) (w : World) (hs : s.size ≤ 2000000) :
    Calls Tryz.prog 40 #[.string s] w fun e w' => e = .returned (.pointer (some ⟨w.heap.size, 0, none⟩)) ∧ RdAt w.heap.size (some s.data.toList) w' ∧ Below w.heap.size w w' := by
  go_enter Tryz.func40, Tryz.ntmps40
  go_wp2_with fail
  go_ret
  exact ⟨rfl, ⟨s, false, heap_alloc_new _ _, hs, rfl⟩, (Below.refl _ _).alloc (Nat.le_refl _) _⟩
set_option maxRecDepth 100000 in
set_option maxHeartbeats 2000000 in
theorem rdInt_any (g : Nat) (st : RSt) (w : World) (h : RdAt g st w) :
    Calls Tryz.prog 41 #[.pointer (some ⟨g, 0, none⟩)] w fun e w' => e = .returned (.int .i64 (opInt st).1) ∧ RdAt g (opInt st).2 w' ∧ w.grownBy w' (some g) := by
  obtain ⟨rest, bad, hb, hr, rfl⟩ := h
  have c0 : w.cell? ⟨g, 0, none⟩ = some (.string rest) := by rw [Lib.cell_of_heap hb]; rfl
  have c1 : w.cell? ⟨g, 1, none⟩ = some (.bool bad) := by rw [Lib.cell_of_heap hb]; rfl
  have f0 : w.frozen? ⟨g, 0, none⟩ = false := Lib.frozen_of_heap hb 0
  have f1 : w.frozen? ⟨g, 1, none⟩ = false := Lib.frozen_of_heap hb 1
  have HB := Lib.hid hb
  clear hb
  cases bad with
  | true =>
    go_enter Tryz.func41, Tryz.ntmps41
    go_wp2_with fail
    go_ret
    exact ⟨rfl, ⟨rest, true, HB.out, hr, rfl⟩, grown_refl _ _⟩
  | false =>
    have HO := Lib.hid (opInt_lead rest.data.toList)
    have hle := leadP_le rest.data.toList
    have hl : rest.data.toList.length = rest.size := by simp
    by_cases hz : (leadP rest.data.toList).2 = 0
    · have HE : Hid (opInt (some rest.data.toList) = (0, none)) := Lib.hid (by rw [HO.out, if_pos hz])
      have hz2 : (((leadP rest.data.toList).2 : Int) == 0) = true := beq_iff_eq.2 (by omega)
      clear HO hz
      simp only [Bool.false_eq_true, if_false, HE.out]
      go_enter Tryz.func41, Tryz.ntmps41
      go_wp2_with fail
      refine (leading_any rest _ (by omega)).mono ?_
      rintro e w' ⟨rfl, rfl⟩
      go_wp2_with fail
      go_ret
      exact ⟨rfl, ⟨rest, true, two_set1 HB.out, hr, rfl⟩, grown_set (grown_refl _ _) _⟩
    · have HE : Hid (opInt (some rest.data.toList) = ((leadP rest.data.toList).1, some (rest.data.toList.drop (leadP rest.data.toList).2))) := Lib.hid (by rw [HO.out, if_neg hz])
      have hz2 : (((leadP rest.data.toList).2 : Int) == 0) = false := beq_eq_false_iff_ne.2 (by omega)
      clear HO hz
      simp only [Bool.false_eq_true, if_false, HE.out]
      go_enter Tryz.func41, Tryz.ntmps41
      go_wp2_with fail
      refine (leading_any rest _ (by omega)).mono ?_
      rintro e w' ⟨rfl, rfl⟩
      go_wp2_with fail
      go_ret
      refine ⟨rfl, ⟨_, false, two_set0 HB.out, by rw [ByteArray.size_extract]; omega, ?_⟩, grown_set (grown_refl _ _) _⟩
      rw [extract_toList]
      rfl
theorem opNum_ge {st : RSt} (h : ¬ (opInt st).1 < 0) : opNum st = opInt st := if_neg h
set_option maxRecDepth 100000 in
set_option maxHeartbeats 2000000 in
theorem rdDone_any (g : Nat) (st : RSt) (w : World) (h : RdAt g st w) :
    Calls Tryz.prog 43 #[.pointer (some ⟨g, 0, none⟩)] w fun e w' => e = .returned (.bool (doneOf st)) ∧ w = w' := by
  obtain ⟨rest, bad, hb, hr, rfl⟩ := h
  have c0 : w.cell? ⟨g, 0, none⟩ = some (.string rest) := by rw [Lib.cell_of_heap hb]; rfl
  have c1 : w.cell? ⟨g, 1, none⟩ = some (.bool bad) := by rw [Lib.cell_of_heap hb]; rfl
  clear hb
  cases bad with
  | true =>
    go_enter Tryz.func43, Tryz.ntmps43
    go_wp2_with fail
    go_ret
    exact ⟨rfl, rfl⟩
  | false =>
    have e0 : rest.toList = rest.data.toList := ByteArray.toList_eq _
    cases hq : rest.data.toList with
    | nil =>
      have h1 : rest.toList = [] := by rw [e0, hq]
      have h2 : (rest.toList == []) = true := by rw [h1]; rfl
      have e : doneOf (some []) = true := rfl
      simp only [Bool.false_eq_true, if_false, e]
      clear e0 hq h1 e
      go_enter Tryz.func43, Tryz.ntmps43
      go_wp2_with fail
      go_ret
      exact ⟨rfl, rfl⟩
    | cons x l =>
      have h1 : rest.toList ≠ [] := by rw [e0, hq]; simp
      have h2 : (rest.toList == []) = false := beq_eq_false_iff_ne.2 h1
      have e : doneOf (some (x :: l)) = false := rfl
      simp only [Bool.false_eq_true, if_false, e]
      clear e0 hq h1 e
      go_enter Tryz.func43, Tryz.ntmps43
      go_wp2_with fail
      go_ret
      exact ⟨rfl, rfl⟩
end Go.Proofs.YtgjklfddoechpaaGreatDoor
