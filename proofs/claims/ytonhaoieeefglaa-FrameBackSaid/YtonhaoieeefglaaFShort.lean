/- Slices of strings that came in, read where they lie; bournelaw23.short. -/
import Derived.Test.YtonhaoieeefglaaFBackLaw
namespace Go.Proofs.Ytonhaoieeefglaa
open Go.RowKit
/-- v is a slice whose elements are the strings ss, anywhere in a block that exists -/
def SArg (v : Value) (ss : List ByteArray) (w : World) : Prop :=
  ∃ a c, v = .slice a ss.length c ∧ ∀ j s, ss[j]? = some s → ∃ p, a = some p ∧ (p.add j).block < w.heap.size ∧ w.cell? (p.add j) = some (.string s)
theorem SArg.below {v : Value} {ss : List ByteArray} {w w' : World} (h : SArg v ss w) (hb : Below w.heap.size w w') : SArg v ss w' := by
  obtain ⟨a, c, rfl, h⟩ := h
  refine ⟨a, c, rfl, fun j s hj => ?_⟩
  obtain ⟨p, h1, h2, h3⟩ := h j s hj
  exact ⟨p, h1, Nat.lt_of_lt_of_le h2 hb.size, (hb.cell h2).trans h3⟩
set_option maxRecDepth 100000 in
set_option maxHeartbeats 2000000 in
theorem short_any (v : Value) (ss : List ByteArray) (w : World) (h : SArg v ss w) (hl : (ss.length : Int) ≤ maxLen) :
    Calls Try.prog 15 #[v] w fun e w' => e = .returned (.bool (decide (ss.length ≤ 20) && decide (∀ s ∈ ss, s.size ≤ 3000))) ∧ Below w.heap.size w w' := by
  obtain ⟨a, c, rfl, h⟩ := h
  unfold maxLen at hl
  have HC := Lib.hid h
  clear h
  by_cases h20 : 20 < ss.length
  · have HE : Hid ((decide (ss.length ≤ 20) && decide (∀ s ∈ ss, s.size ≤ 3000)) = false) := Lib.hid (by
      rw [decide_eq_false (by omega)]
      rfl)
    go_enter Try.func15, Try.ntmps15
    go_wp2_with fail
    rw [HE.out]
    go_ret
    exact ⟨rfl, Below.refl _ _⟩
  · go_enter Try.func15, Try.ntmps15
    go_wp2_with fail
    go_loopw [3] (fun i wr => ∃ k : Nat, k ≤ ss.length ∧ i = .int .i64 k ∧ (∀ s ∈ ss.take k, s.size ≤ 3000) ∧ Below w.heap.size w wr) (fun i _ => ss.length - (intOf i).toNat)
    case atStart => exact ⟨0, by omega, rfl, by simp, Below.refl _ _⟩
    case round =>
      obtain ⟨k, hk, rfl, ht, hb⟩ := hrel
      have HT := Lib.hid ht
      have HB := Lib.hid hb
      clear ht hb
      by_cases hlt : k < ss.length
      · have H1 : Hid (ss[k]? = some ss[k]) := Lib.hid (List.getElem?_eq_getElem hlt)
        obtain ⟨p, rfl, h2, h3⟩ := HC.out k _ H1.out
        have hc := (HB.out.cell h2).trans h3
        clear h2 h3
        generalize ss[k] = x at *
        by_cases hx : x.size ≤ 3000
        · have HS : Hid (∀ s ∈ ss.take (k + 1), s.size ≤ 3000) := by
            refine Lib.hid ?_
            rw [List.take_add_one, H1.out]
            intro s hs
            simp only [List.mem_append, Option.toList_some, List.mem_singleton] at hs
            rcases hs with hs | rfl
            · exact HT.out s hs
            · exact hx
          go_wp2_with fail
          go_roundw
          case rel => exact ⟨k + 1, by omega, by go_num, HS.out, HB.out⟩
          case measure => simp [intOf]; omega
        · have HE : Hid ((decide (ss.length ≤ 20) && decide (∀ s ∈ ss, s.size ≤ 3000)) = false) := Lib.hid (by
            rw [Bool.and_eq_false_iff]
            right
            simp only [decide_eq_false_iff_not]
            exact fun hall => hx (hall x (List.mem_of_getElem? H1.out)))
          have hx' : decide (3000 < (x.size : Int)) = true := by simp; omega
          go_wp2_with fail
          rw [HE.out]
          go_ret
          exact ⟨rfl, HB.out⟩
      · obtain rfl : k = ss.length := by omega
        have HE : Hid ((decide (ss.length ≤ 20) && decide (∀ s ∈ ss, s.size ≤ 3000)) = true) := Lib.hid (by
          have := HT.out
          rw [List.take_of_length_le (Nat.le_refl _)] at this
          rw [Bool.and_eq_true]
          exact ⟨by simp; omega, decide_eq_true this⟩)
        clear hlt hk
        go_wp2_with fail
        rw [HE.out]
        go_ret
        exact ⟨rfl, HB.out⟩
end Go.Proofs.Ytonhaoieeefglaa
