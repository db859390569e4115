/- Package wire: a reader's Text. -/
import Derived.Test.YtnomicccdhilbaaDoorWRead
namespace Go.Proofs.YtnomicccdhilbaaDoor
open Go.RowKit
theorem rdText_cons {c : UInt8} (h : c ≠ 0) (t : List UInt8) : rdText (c :: t) = (rdText t).map fun p => (c :: p.1, p.2) := by
  cases t with
  | nil => rfl
  | cons d t => rw [rdText, if_neg h]
theorem rdText_run (a t : List UInt8) (h : ∀ x ∈ a, x ≠ 0) : rdText (a ++ t) = (rdText t).map fun p => (a ++ p.1, p.2) := by
  induction a with
  | nil => simp
  | cons c a ih =>
    rw [List.cons_append, rdText_cons (h c (by simp)), ih (fun x hx => h x (by simp [hx])), Option.map_map]
    rfl
theorem rdText_miss (s : List UInt8) (h : Lib.indexByte s 0 = -1) : rdText s = none := by
  have h1 := rdText_run s [] (fun x hx e => by
    obtain ⟨k, hk⟩ := List.mem_iff_getElem?.1 hx
    exact Lib.indexByte_none h k (by rw [hk, e]))
  rw [List.append_nil] at h1
  rw [h1]
  rfl
theorem take_ne (s : List UInt8) (o : Nat) (h : ∀ k, k < o → s[k]? ≠ some 0) : ∀ x ∈ s.take o, x ≠ 0 := by
  intro x hx e
  obtain ⟨k, hk⟩ := List.mem_iff_getElem?.1 hx
  rw [List.getElem?_take] at hk
  split at hk
  · next hlt => exact h k hlt (by rw [hk, e])
  · cases hk
theorem rdText_last (s : List UInt8) (o : Nat) (h : Lib.indexByte s 0 = (o : Int)) (hl : o + 1 = s.length) : rdText s = none := by
  obtain ⟨h1, h2⟩ := Lib.indexByte_some h
  have e : s = s.take o ++ [0] := by
    have := List.take_append_drop o s
    rw [List.drop_eq_getElem_cons (by omega), List.drop_eq_nil_of_le (by omega)] at this
    rw [List.getElem?_eq_getElem (by omega)] at h1
    rw [Option.some.inj h1] at this
    exact this.symm
  rw [e, rdText_run _ _ (take_ne s o h2)]
  rfl
theorem rdText_hit (s : List UInt8) (o : Nat) (d : UInt8) (h : Lib.indexByte s 0 = (o : Int)) (hd : s[o + 1]? = some d) :
    rdText s = if d = 1 then some (s.take o, s.drop (o + 2)) else if d = 255 then (rdText (s.drop (o + 2))).map (fun p => ((s.take o ++ [0]) ++ p.1, p.2)) else none := by
  obtain ⟨h1, h2⟩ := Lib.indexByte_some h
  have hl : o + 1 < s.length := (List.getElem?_eq_some_iff.1 hd).1
  have e : s.take o ++ (0 :: d :: s.drop (o + 2)) = s := by
    have := List.take_append_drop o s
    rw [List.drop_eq_getElem_cons (by omega), List.drop_eq_getElem_cons (by omega)] at this
    rw [List.getElem?_eq_getElem (by omega)] at h1 hd
    rw [Option.some.inj h1, Option.some.inj hd] at this
    exact this
  have r := rdText_run (s.take o) (0 :: d :: s.drop (o + 2)) (take_ne s o h2)
  rw [e] at r
  rw [r, rdText, if_pos rfl]
  by_cases h3 : d = 1
  · rw [if_pos h3, if_pos h3]
    simp
  · rw [if_neg h3, if_neg h3]
    by_cases h4 : d = 255
    · rw [if_pos h4, if_pos h4, Option.map_map]
      congr 1
      funext p
      simp
    · rw [if_neg h4, if_neg h4]
      rfl
theorem indexByte_le (s : List UInt8) (c : UInt8) (o : Nat) (h : Lib.indexByte s c = (o : Int)) : o < s.length := (List.getElem?_eq_some_iff.1 (Lib.indexByte_some h).1).1
theorem opText_of {s : List UInt8} : opText (some s) = match rdText s with | none => ([], none) | some (n, r') => (n, some r') := rfl
theorem take_toList (s : ByteArray) (o : Nat) : (s.extract 0 o).data.toList = s.data.toList.take o := by
  rw [ByteArray.data_extract, Array.toList_extract, List.extract]
  simp
theorem strCells_list (s : ByteArray) : Lib.strCells s = Lib.byteCells s.data.toList := strCells_byteCells s.data.toList
theorem ret_str {a b : List UInt8} (h : a = b) : Ending.returned (.string ⟨a.toArray⟩) = Ending.returned (.string ⟨b.toArray⟩) := by rw [h]
theorem isBuilder_set {T e : TypeId} {B b : Nat} {bs : List Value} {w : World} (h : Lib.IsBuilder T e B b bs w) {g o : Nat} (hg : g ≠ b) (hB : g < B) (v : Value) : Lib.IsBuilder T e B b bs (w.setCell ⟨g, o, none⟩ v) := by
  have h1 : ∀ p, Lib.BuilderAt T e B b p bs w → Lib.BuilderAt T e B b p bs (w.setCell ⟨g, o, none⟩ v) := by
    rintro p ⟨hB', u, hbk, hown, hne⟩
    exact ⟨hB', u, (Below.heap_setCell _ _ _ _ (fun e => hg e.symm)).trans hbk, ownsRow_setCell_below hown hB v, hne⟩
  exact h.imp (h1 _) (h1 _)
end Go.Proofs.YtnomicccdhilbaaDoor
