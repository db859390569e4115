/- bournelaw02: number, text, compare. -/
import Derived.Test.YtapbehipdeabbaaDoorWAll
import Derived.Sort.Walk0
import Derived.BigQuiet
import Derived.Deep.QuietTactic
namespace Go.Proofs.YtapbehipdeabbaaDoor
open Go.RowKit
set_option maxRecDepth 100000 in
set_option maxHeartbeats 1000000 in
theorem number_any (a b : Int) (w : World) :
    Calls Tryd.prog 48 #[.int .i64 a, .int .i64 b] w fun e w' => e = .returned (.int .i64 (cmpI a b)) ∧ w' = w := by
  by_cases h1 : a < b
  · have HE : Hid (cmpI a b = -1) := Lib.hid (by unfold cmpI; rw [if_pos h1])
    rw [HE.out]
    go_enter Tryd.func48, Tryd.ntmps48
    go_wp2_with fail
    go_ret
    exact ⟨rfl, rfl⟩
  · by_cases h2 : b < a
    · have HE : Hid (cmpI a b = 1) := Lib.hid (by unfold cmpI; rw [if_neg h1, if_pos h2])
      rw [HE.out]
      go_enter Tryd.func48, Tryd.ntmps48
      go_wp2_with fail
      go_ret
      exact ⟨rfl, rfl⟩
    · have HE : Hid (cmpI a b = 0) := Lib.hid (by unfold cmpI; rw [if_neg h1, if_neg h2])
      rw [HE.out]
      go_enter Tryd.func48, Tryd.ntmps48
      go_wp2_with fail
      go_ret
      exact ⟨rfl, rfl⟩
set_option maxRecDepth 100000 in
set_option maxHeartbeats 1000000 in
theorem cmptext_any (a b : ByteArray) (w : World) :
    Calls Tryd.prog 22 #[.string a, .string b] w fun e w' => e = .returned (.int .i64 (cmpT a b)) ∧ w' = w := by
  have ea : a.toList = a.data.toList := ByteArray.toList_eq _
  have eb : b.toList = b.data.toList := ByteArray.toList_eq _
  by_cases h1 : a.data.toList < b.data.toList
  · have HE : Hid (cmpT a b = -1) := Lib.hid (by unfold cmpT; rw [if_pos h1])
    have t1 : Op.bytesLess a.toList b.toList = true := by rw [bytesLess_eq, ea, eb]; exact decide_eq_true h1
    clear ea eb h1
    rw [HE.out]
    go_enter Tryd.func22, Tryd.ntmps22
    go_wp2_with fail
    go_ret
    exact ⟨rfl, rfl⟩
  · have t1 : Op.bytesLess a.toList b.toList = false := by rw [bytesLess_eq, ea, eb]; exact decide_eq_false h1
    by_cases h2 : b.data.toList < a.data.toList
    · have HE : Hid (cmpT a b = 1) := Lib.hid (by unfold cmpT; rw [if_neg h1, if_pos h2])
      have t2 : (a.toList == b.toList) = false := beq_eq_false_iff_ne.2 (fun e => by rw [ea, eb] at e; rw [e] at h2; exact List.lt_irrefl _ h2)
      clear ea eb h1 h2
      rw [HE.out]
      go_enter Tryd.func22, Tryd.ntmps22
      go_wp2_with fail
      go_ret
      exact ⟨rfl, rfl⟩
    · have HE : Hid (cmpT a b = 0) := Lib.hid (by unfold cmpT; rw [if_neg h1, if_neg h2])
      have t2 : (a.toList == b.toList) = true := beq_iff_eq.2 (by
        rw [ea, eb]
        rcases list_tri a.data.toList b.data.toList with h | h | h
        · exact absurd h h1
        · exact h
        · exact absurd h h2)
      clear ea eb h1 h2
      rw [HE.out]
      go_enter Tryd.func22, Tryd.ntmps22
      go_wp2_with fail
      go_ret
      exact ⟨rfl, rfl⟩
theorem cmpLs_at {α : Type} [DecidableEq α] (c : α → α → Int) : ∀ (a b : List α) (k : Nat) (x y : α), a.take k = b.take k → a[k]? = some x → b[k]? = some y → x ≠ y → cmpLs c a b = c x y
  | [], _, _, _, _, _, ha, _, _ => by simp at ha
  | _ :: _, [], _, _, _, _, _, hb, _ => by simp at hb
  | p :: a, q :: b, 0, x, y, _, ha, hb, hne => by
    simp only [List.getElem?_cons_zero, Option.some.injEq] at ha hb
    subst ha hb
    rw [cmpLs, if_neg hne]
  | p :: a, q :: b, k + 1, x, y, ht, ha, hb, hne => by
    simp only [List.take_succ_cons, List.cons.injEq] at ht
    simp only [List.getElem?_cons_succ] at ha hb
    rw [cmpLs, if_pos ht.1]
    exact cmpLs_at c a b k x y ht.2 ha hb hne
theorem cmpLs_end {α : Type} [DecidableEq α] (c : α → α → Int) : ∀ (a b : List α) (k : Nat), a.take k = b.take k → (k = a.length ∨ k = b.length) → k ≤ a.length → k ≤ b.length → cmpLs c a b = cmpI a.length b.length
  | [], [], _, _, _, _, _ => rfl
  | [], q :: b, k, _, _, _, _ => by
    have h : ((([] : List α).length : Nat) : Int) < ((q :: b).length : Int) := by simp
    rw [cmpLs, cmpI, if_pos h]
  | p :: a, [], k, _, _, _, _ => by
    have h : ((([] : List α).length : Nat) : Int) < ((p :: a).length : Int) := by simp
    rw [cmpLs, cmpI, if_neg (by omega), if_pos h]
  | p :: a, q :: b, 0, _, hk, _, _ => by rcases hk with h | h <;> simp at h
  | p :: a, q :: b, k + 1, ht, hk, h1, h2 => by
    simp only [List.take_succ_cons, List.cons.injEq] at ht
    simp only [List.length_cons] at hk h1 h2
    rw [cmpLs, if_pos ht.1, cmpLs_end c a b k ht.2 (by omega) (by omega) (by omega)]
    unfold cmpI
    simp only [List.length_cons]
    by_cases h3 : (a.length : Int) < b.length
    · have h3' : ((a.length + 1 : Nat) : Int) < ((b.length + 1 : Nat) : Int) := by omega
      rw [if_pos h3, if_pos h3']
    · have h3' : ¬ ((a.length + 1 : Nat) : Int) < ((b.length + 1 : Nat) : Int) := by omega
      rw [if_neg h3, if_neg h3']
      by_cases h4 : (b.length : Int) < a.length
      · have h4' : ((b.length + 1 : Nat) : Int) < ((a.length + 1 : Nat) : Int) := by omega
        rw [if_pos h4, if_pos h4']
      · have h4' : ¬ ((b.length + 1 : Nat) : Int) < ((a.length + 1 : Nat) : Int) := by omega
        rw [if_neg h4, if_neg h4']
end Go.Proofs.YtapbehipdeabbaaDoor
