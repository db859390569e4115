/- Package wire: a reader: Open, Int, Num, Text, Left, Done. -/
import Derived.Test.YtnomicccdhilbaaDoorWLead
import Derived.OneCell
namespace Go.Proofs.YtnomicccdhilbaaDoor
open Go.RowKit
theorem two_set0 {w : World} {g : Nat} {a b v : Value} {t : TypeId} (h : w.heap[g]? = some (.cells #[a, b] t (0, 0))) : (w.setCell ⟨g, 0, none⟩ v).heap[g]? = some (.cells #[v, b] t (0, 0)) := by
  have hlt := lt_of_block h
  have h' : w.heap[g] = .cells #[a, b] t (0, 0) := by simpa [Array.getElem?_eq_getElem hlt] using h
  show (w.heap.modify g _)[g]? = _
  rw [Array.getElem?_eq_getElem (by simpa using hlt), Array.getElem_modify_self, h']
  rfl
theorem two_set1 {w : World} {g : Nat} {a b v : Value} {t : TypeId} (h : w.heap[g]? = some (.cells #[a, b] t (0, 0))) : (w.setCell ⟨g, 1, none⟩ v).heap[g]? = some (.cells #[a, v] t (0, 0)) := by
  have hlt := lt_of_block h
  have h' : w.heap[g] = .cells #[a, b] t (0, 0) := by simpa [Array.getElem?_eq_getElem hlt] using h
  show (w.heap.modify g _)[g]? = _
  rw [Array.getElem?_eq_getElem (by simpa using hlt), Array.getElem_modify_self, h']
  rfl
theorem extract_toList (s : ByteArray) (q : Nat) : (s.extract q s.size).data.toList = s.data.toList.drop q := by
  have h : (s.data.toList.drop q).length ≤ s.size - q := by simp
  rw [ByteArray.data_extract, Array.toList_extract, List.extract, List.take_of_length_le h]
theorem grown_refl (w : World) (row : Option Nat) : w.grownBy w row := ⟨rfl, rfl, rfl, Nat.le_refl _, fun _ _ _ => rfl⟩
theorem grown_set {w w1 : World} {g o : Nat} (h : w.grownBy w1 (some g)) (v : Value) : w.grownBy (w1.setCell ⟨g, o, none⟩ v) (some g) :=
  ⟨h.os, h.tape, h.output, by rw [World.size_setCell]; exact h.size, fun k hk hne => by
    rw [Below.heap_setCell _ _ _ _ (fun e => hne (by rw [e]))]
    exact h.block k hk hne⟩
theorem grown_below {w w1 w2 : World} {row : Option Nat} (h : w.grownBy w1 row) (hb : Below w1.heap.size w1 w2) : w.grownBy w2 row :=
  ⟨hb.os.trans h.os, hb.tape.trans h.tape, hb.output.trans h.output, Nat.le_trans h.size hb.size, fun k hk hne => (hb.block k (Nat.lt_of_lt_of_le hk h.size)).trans (h.block k hk hne)⟩
theorem grown_trans {w w1 w2 : World} {row : Option Nat} (h : w.grownBy w1 row) (hb : w1.grownBy w2 row) : w.grownBy w2 row :=
  ⟨hb.os.trans h.os, hb.tape.trans h.tape, hb.output.trans h.output, Nat.le_trans h.size hb.size, fun k hk hne => (hb.block k (Nat.lt_of_lt_of_le hk h.size) hne).trans (h.block k hk hne)⟩
theorem opInt_lead (s : List UInt8) : opInt (some s) = if (leadP s).2 = 0 then (0, none) else ((leadP s).1, some (s.drop (leadP s).2)) := by
  unfold opInt leadP
  cases h : rdInt s with
  | none => simp [h]
  | some p =>
    obtain ⟨n, r⟩ := p
    have h1 := rdInt_lt h
    obtain ⟨h2, _⟩ := intL_rdInt h
    simp only [h]
    rw [if_neg (by omega)]
    have h3 : s.length = (intL n).length + r.length := by rw [h2, List.length_append]
    have h4 : s.length - r.length = (intL n).length := by omega
    rw [h4, h2, List.drop_left]
theorem leadP_le (s : List UInt8) : (leadP s).2 ≤ s.length := by
  unfold leadP
  cases h : rdInt s with
  | none => simp
  | some p => simp
theorem opNum_ge {st : RSt} (h : ¬ (opInt st).1 < 0) : opNum st = opInt st := if_neg h
end Go.Proofs.YtnomicccdhilbaaDoor
