/- What was learned in between is the difference: plain. -/
import Derived.Test.YtokbandookjdjaaGreatZChg
namespace Go.Proofs.YtokbandookjdjaaGreat
open Go.RowKit
theorem perm_sum {a b : List Int} (h : a.Perm b) : a.sum = b.sum := by
  induction h with
  | nil => rfl
  | cons x _ ih => rw [List.sum_cons, List.sum_cons, ih]
  | swap x y l => rw [List.sum_cons, List.sum_cons, List.sum_cons, List.sum_cons]; omega
  | trans _ _ h1 h2 => exact h1.trans h2
theorem learned (o d f s : Int) (hfs : f ≤ s) : ∀ l : List EntryV, (accL l o d s).sum = (accL l o d f).sum + ((chgL l o d f s).map (·.litres)).sum
  | [] => rfl
  | x :: l => by
    have ih := learned o d f s hfs l
    unfold accL chgL at ih ⊢
    rw [List.filter_cons, List.filter_cons, List.filter_cons]
    by_cases h1 : x.day ≤ d <;> by_cases h2 : x.owner = o <;> by_cases h3 : x.known ≤ f <;> by_cases h4 : x.known ≤ s <;> (try omega) <;>
      · have e1 : accB o d s x = (decide (x.day ≤ d) && decide (x.known ≤ s) && decide (x.owner = o)) := rfl
        have e2 : accB o d f x = (decide (x.day ≤ d) && decide (x.known ≤ f) && decide (x.owner = o)) := rfl
        have e3 : chgB o d f s x = (decide (x.owner = o) && decide (x.day ≤ d) && decide (f < x.known) && decide (x.known ≤ s)) := rfl
        have h5 : f < x.known ↔ ¬ x.known ≤ f := by omega
        rw [e1, e2, e3]
        simp only [h1, h2, h3, h4, h5, decide_true, decide_false, Bool.and_true, Bool.and_false, if_true, if_false, Bool.false_eq_true, List.map_cons, List.sum_cons, not_true_eq_false, not_false_eq_true]
        omega
end Go.Proofs.YtokbandookjdjaaGreat
