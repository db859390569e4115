/- Entries: rows of the call's own as lists that can be read. -/
import Derived.Test.YtokbandookjdjaaGreatBase
import Derived.Test.YtokbandookjdjaaGreatZOpen
import Derived.Laws.AppendOwn
import Derived.Maps.AppendAt
namespace Go.Proofs.YtokbandookjdjaaGreat
open Go.RowKit
theorem owns_below {w w' : World} {base size n : Nat} {e : TypeId} {v : Value} {xs : List Value} (h : w.ownsRow base e size v n xs) (hb : Below w.heap.size w w') : w'.ownsRow base e size v n xs :=
  h.kept (row := none) ⟨hb.os, hb.tape, hb.output, hb.size, fun k hk _ => hb.block k hk⟩ (by cases v.ownBlock <;> simp)
theorem row_base {w : World} {base base' : Nat} {e : TypeId} {size n : Nat} {v : Value} {xs : List Value} (h : w.ownsRow base e size v n xs) (hb : base' ≤ base) : w.ownsRow base' e size v n xs :=
  ⟨h.1, h.2.imp id fun ⟨g, cap, cur, h1, h2, h3⟩ => ⟨g, cap, cur, h1, Nat.le_trans hb h2, h3⟩⟩
/-- a row of elements of k cells -/
theorem flat_at {α : Type} {enc : α → List Value} {k : Nat} (hk : ∀ x, (enc x).length = k) : ∀ (l : List α) (j : Nat) (x : α), l[j]? = some x → ((l.flatMap enc).drop (j * k)).take k = enc x
  | [], j, x, h => by simp at h
  | y :: l, 0, x, h => by
    cases h
    rw [Nat.zero_mul, List.drop_zero, List.flatMap_cons, ← hk y, List.take_left]
  | y :: l, j + 1, x, h => by
    rw [List.getElem?_cons_succ] at h
    have e : (j + 1) * k = (enc y).length + j * k := by rw [hk, Nat.succ_mul]; omega
    rw [List.flatMap_cons, e, ← List.drop_drop, List.drop_left]
    exact flat_at hk l j x h
theorem larg_of_owns {α : Type} {R : α → List Value → World → Prop} {enc : α → List Value} {k : Nat} (hk : ∀ x, (enc x).length = k) {w : World} {base n : Nat} {e : TypeId} {v : Value} {l : List α} (hR : ∀ x ∈ l, R x (enc x) w) (hn : l.length = n) (h : w.ownsRow base e k v n (l.flatMap enc)) : LArg R k v l w := by
  subst hn
  rcases h.2 with ⟨rfl, h0⟩ | ⟨g, cap, cur, rfl, hg, hh, hnc, hcm, hcs, htk⟩
  · exact ⟨none, 0, by rw [h0], by omega, by unfold maxLen; omega, fun j x hj => by
      have := (List.getElem?_eq_some_iff.1 hj).1
      omega⟩
  · refine ⟨_, cap, rfl, hnc, hcm, fun j x hj => ⟨g, 0, enc x, rfl, blk_lt hh, hk x, fun i u hi => ?_, hR x (List.mem_of_getElem? hj)⟩⟩
    have hjl := (List.getElem?_eq_some_iff.1 hj).1
    have hil : i < k := by rw [← hk x]; exact (List.getElem?_eq_some_iff.1 hi).1
    have h1 := flat_at hk l j x hj
    rw [← h1, List.getElem?_take, if_pos hil, List.getElem?_drop, ← htk, List.getElem?_take] at hi
    split at hi
    · rw [cell_of_row _ _ _ _ _ _ hh, ← Array.getElem?_toList, Nat.zero_add]
      exact hi
    · cases hi
theorem infoInt : (Tryz.prog.info? 3).map (fun i => (i.zero, i.size, i.bytes)) = some (some (.int .i64 0), 1, 8) := by kernel_rfl
theorem undIs : Tryz.prog.underlying 36 = some (.slice 3) := by kernel_rfl
def intC (x : Int) : List Value := [.int .i64 x]
theorem intC_len (x : Int) : (intC x).length = 1 := rfl
def I64 (n : Int) : Prop := -9223372036854775808 ≤ n ∧ n ≤ 9223372036854775807
theorem ret_int {k : IntKind} {a b : Int} (h : a = b) : Ending.returned (.int k a) = .returned (.int k b) := by rw [h]
end Go.Proofs.YtokbandookjdjaaGreat
