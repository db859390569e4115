/- Frames as plain functions on lists of bytes: what a stretch contains. -/
import Derived.Test.YtonhaoieeefglaaFEnc
namespace Go.Proofs.Ytonhaoieeefglaa
open Go.RowKit
theorem index_str (s : ByteArray) (i : Int) (n : Nat) (hi : i = (n : Int)) (hn : n < s.size) (w : World) : (Instr.index 9 (.string s) (.int .i64 i)).run Try.prog w = .ok (.int .u8 (s[n].toNat : Int)) w := by
  subst hi
  have h0 : (0 : Int) ≤ (n : Int) := Int.natCast_nonneg _
  have h : s[n]? = some s[n] := by simp [hn]
  simp [Instr.index, asIntOf, run_underlying undS, h]
/-- the bytes of an escaped form -/
def unescL : List UInt8 → Option (List UInt8)
  | [] => some []
  | [c] => if c = 125 then none else some [c]
  | c :: d :: l => if c = 125 then (if d = 94 then (unescL l).map (126 :: ·) else if d = 93 then (unescL l).map (125 :: ·) else none) else (unescL (d :: l)).map (c :: ·)
theorem unesc_plain {c : UInt8} (h : ¬ c = 125) (l : List UInt8) : unescL (c :: l) = (unescL l).map (c :: ·) := by
  cases l with
  | nil => simp [unescL, h]
  | cons d l => simp [unescL, h]
theorem unesc_flag (l : List UInt8) : unescL (125 :: 94 :: l) = (unescL l).map (126 :: ·) := by simp [unescL]
theorem unesc_esc (l : List UInt8) : unescL (125 :: 93 :: l) = (unescL l).map (125 :: ·) := by simp [unescL]
theorem unesc_bad {d : UInt8} (h : ¬ d = 94) (h2 : ¬ d = 93) (l : List UInt8) : unescL (125 :: d :: l) = none := by simp [unescL, h, h2]
theorem unesc_end : unescL [125] = none := by simp [unescL]
theorem drop_at {l : List UInt8} {k : Nat} {c : UInt8} (h : l[k]? = some c) : l.drop k = c :: l.drop (k + 1) := by
  obtain ⟨h1, h2⟩ := List.getElem?_eq_some_iff.1 h
  rw [← h2]
  exact List.drop_eq_getElem_cons h1
theorem unesc_step1 {l pre : List UInt8} {k : Nat} {c : UInt8} (h : unescL l = (unescL (l.drop k)).map fun t => pre ++ t) (hc : l[k]? = some c) (hn : ¬ c = 125) : unescL l = (unescL (l.drop (k + 1))).map fun t => (pre ++ [c]) ++ t := by
  rw [h, drop_at hc, unesc_plain hn, Option.map_map]
  congr 1
  funext t
  simp
theorem unesc_step2 {l pre : List UInt8} {k : Nat} {d x : UInt8} (h : unescL l = (unescL (l.drop k)).map fun t => pre ++ t) (hc : l[k]? = some 125) (hd : l[k + 1]? = some d) (hx : d = 94 ∧ x = 126 ∨ d = 93 ∧ x = 125) : unescL l = (unescL (l.drop (k + 2))).map fun t => (pre ++ [x]) ++ t := by
  rw [h, drop_at hc, drop_at hd]
  rcases hx with ⟨rfl, rfl⟩ | ⟨rfl, rfl⟩
  · rw [unesc_flag, Option.map_map]
    congr 1
    funext t
    simp
  · rw [unesc_esc, Option.map_map]
    congr 1
    funext t
    simp
theorem unesc_fail2 {l pre : List UInt8} {k : Nat} {d : UInt8} (h : unescL l = (unescL (l.drop k)).map fun t => pre ++ t) (hc : l[k]? = some 125) (hd : l[k + 1]? = some d) (h1 : ¬ d = 94) (h2 : ¬ d = 93) : unescL l = none := by
  rw [h, drop_at hc, drop_at hd, unesc_bad h1 h2]
  rfl
theorem unesc_fail1 {l pre : List UInt8} {k : Nat} (h : unescL l = (unescL (l.drop k)).map fun t => pre ++ t) (hc : l[k]? = some 125) (hk : l.length = k + 1) : unescL l = none := by
  rw [h, drop_at hc, List.drop_of_length_le (by omega), unesc_end]
  rfl
theorem unesc_done {l pre : List UInt8} {k : Nat} (h : unescL l = (unescL (l.drop k)).map fun t => pre ++ t) (hk : l.length = k) : unescL l = some pre := by
  rw [h, List.drop_of_length_le (by omega)]
  simp [unescL]
theorem unesc_start (l : List UInt8) : unescL l = (unescL (l.drop 0)).map fun t => [] ++ t := by
  cases h : unescL l <;> simp [h]
theorem unesc_len : ∀ (n : Nat) (l b : List UInt8), l.length ≤ n → unescL l = some b → b.length ≤ l.length
  | _, [], b, _, h => by simp [unescL] at h; subst h; simp
  | n + 1, c :: l, b, hn, h => by
    by_cases hc : c = 125
    · subst hc
      cases l with
      | nil => simp [unescL] at h
      | cons d l =>
        by_cases h1 : d = 94
        · subst h1
          rw [unesc_flag] at h
          obtain ⟨y, hy, rfl⟩ := Option.map_eq_some_iff.1 h
          have := unesc_len n l y (by simp at hn; omega) hy
          simp; omega
        · by_cases h2 : d = 93
          · subst h2
            rw [unesc_esc] at h
            obtain ⟨y, hy, rfl⟩ := Option.map_eq_some_iff.1 h
            have := unesc_len n l y (by simp at hn; omega) hy
            simp; omega
          · rw [unesc_bad h1 h2] at h; cases h
    · rw [unesc_plain hc] at h
      obtain ⟨y, hy, rfl⟩ := Option.map_eq_some_iff.1 h
      have := unesc_len n l y (by simp at hn; omega) hy
      simp; omega
/-- is the body of a frame right? -/
def bodyOk (b : List UInt8) : Bool := decide (2 ≤ b.length) && decide (crcL (b.take (b.length - 2)) = (b[b.length - 2]?.getD 0).toNat + 256 * (b[b.length - 1]?.getD 0).toNat)
/-- the payload of a stretch -/
def payOpt (l : List UInt8) : Option (List UInt8) :=
  if 2048 < l.length then none else match unescL l with
  | none => none
  | some b => if bodyOk b then some (b.take (b.length - 2)) else none
theorem payOpt_long {l : List UInt8} (h : 2048 < l.length) : payOpt l = none := by unfold payOpt; rw [if_pos h]
theorem payOpt_none {l : List UInt8} (h : unescL l = none) : payOpt l = none := by unfold payOpt; rw [h]; split <;> rfl
theorem payOpt_some {l b : List UInt8} (h0 : ¬ 2048 < l.length) (h : unescL l = some b) : payOpt l = if bodyOk b then some (b.take (b.length - 2)) else none := by unfold payOpt; rw [if_neg h0, h]
def PayPost (l : List UInt8) (w : World) (e : Ending) (w' : World) : Prop :=
  ∃ p : List UInt8, e = .returned (.tuple #[.string ⟨p.toArray⟩, .bool (payOpt l).isSome]) ∧ (∀ q, payOpt l = some q → p = q) ∧ Below w.heap.size w w'
theorem pay_none {l : List UInt8} {w w' : World} {e : Ending} (h : payOpt l = none) (he : e = .returned (.tuple #[.string ⟨#[]⟩, .bool false])) (hb : Below w.heap.size w w') : PayPost l w e w' :=
  ⟨[], by rw [he, h]; rfl, fun q hq => by rw [h] at hq; (cases hq), hb⟩
theorem pay_some {l b : List UInt8} {w w' : World} {e : Ending} (h0 : ¬ 2048 < l.length) (h : unescL l = some b) (he : e = .returned (.tuple #[.string ⟨(b.take (b.length - 2)).toArray⟩, .bool (bodyOk b)])) (hb : Below w.heap.size w w') : PayPost l w e w' := by
  have h1 := payOpt_some h0 h
  refine ⟨b.take (b.length - 2), ?_, fun q hq => ?_, hb⟩
  · rw [he, h1]
    cases bodyOk b <;> rfl
  · rw [h1] at hq
    split at hq
    · exact Option.some.inj hq
    · cases hq
end Go.Proofs.Ytonhaoieeefglaa
