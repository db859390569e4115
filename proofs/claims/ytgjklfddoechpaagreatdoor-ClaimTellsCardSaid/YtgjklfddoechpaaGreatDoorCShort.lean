/- bournelaw45.short. -/
import Derived.Test.YtgjklfddoechpaaGreatDoorCSmall
import Derived.Outline
namespace Go.Proofs.YtgjklfddoechpaaGreatDoor
open Go.RowKit
def shortC (l : List CV) : Bool := decide (∀ c ∈ l, c.prev.size ≤ 100) && decide (l.length ≤ 8)
set_option maxRecDepth 100000 in
set_option maxHeartbeats 1000000 in
theorem shortC_any (v : Value) (l : List CV) (w : World) (h : LArg RC 8 v l w) :
    Calls Tryz.prog 7 #[v] w fun e w' => e = .returned (.bool (shortC l)) ∧ w' = w := by
  obtain ⟨al, lc, rfl, hlc, hlm⟩ := h.slice
  have hl : l.length ≤ 9223372036854775807 := by unfold maxLen at hlm; omega
  have HL := Lib.hid h
  clear h hlm
  go_enter Tryz.func7, Tryz.ntmps7
  go_wp2_with fail
  go_loop [3] (fun iv => ∃ k : Nat, k ≤ l.length ∧ iv = .int .i64 k ∧ (∀ c ∈ l.take k, c.prev.size ≤ 100)) (fun iv => l.length - (intOf iv).toNat)
  case atStart => exact ⟨0, by omega, rfl, by simp⟩
  case round =>
    obtain ⟨k, hk, rfl, ht⟩ := hrel
    have HT := Lib.hid ht
    clear ht
    by_cases hlt : k < l.length
    · obtain ⟨c, hc⟩ : ∃ c, l[k]? = some c := ⟨_, List.getElem?_eq_getElem hlt⟩
      obtain ⟨b, o, cs, hal, hb, h8, hrg, hcs⟩ := HL.out.at hc
      subst hal
      rw [hcs.1] at hrg
      have hps : c.prev.size ≤ 9223372036854775807 := by have := hcs.2.2; unfold maxLen at this; omega
      have c5 : w.cell? ⟨b, o + k * 8 + 5, none⟩ = some (.string c.prev) := hrg 5 _ rfl
      have HC := Lib.hid hc
      clear hrg hcs h8 hb hc
      by_cases hx : c.prev.size ≤ 100
      · have HS : Hid (∀ c ∈ l.take (k + 1), c.prev.size ≤ 100) := Lib.hid (by
          rw [List.take_add_one, HC.out]
          intro s hs
          simp only [List.mem_append, Option.toList_some, List.mem_singleton] at hs
          rcases hs with hs | rfl
          · exact HT.out s hs
          · exact hx)
        generalize c.prev = cp at *
        go_wp2_with fail
        go_round
        case rel => exact ⟨k + 1, by omega, by go_num, HS.out⟩
        case measure => simp [intOf]; omega
      · have HE : Hid (shortC l = false) := Lib.hid (by
          unfold shortC
          rw [Bool.and_eq_false_iff]
          left
          exact decide_eq_false (fun h => hx (h c (List.mem_of_getElem? HC.out))))
        generalize c.prev = cp at *
        go_wp2_with fail
        rw [HE.out]
        go_ret
        exact ⟨rfl, rfl⟩
    · obtain rfl : k = l.length := by omega
      have HE : Hid (shortC l = decide ((l.length : Int) ≤ 8)) := Lib.hid (by
        unfold shortC
        have h := HT.out
        rw [List.take_length] at h
        rw [decide_eq_true h, Bool.true_and, Bool.eq_iff_iff, decide_eq_true_iff, decide_eq_true_iff]
        omega)
      go_wp2_with fail
      rw [HE.out]
      go_ret
      exact ⟨rfl, rfl⟩
end Go.Proofs.YtgjklfddoechpaaGreatDoor
