/- Package wire: leading. -/
import Derived.Test.YtnomicccdhilbaaDoorWJoin
namespace Go.Proofs.YtnomicccdhilbaaDoor
open Go.RowKit
def valR (l : List UInt8) : Nat := valL l.reverse
theorem valR_snoc (l : List UInt8) (x : UInt8) : valR (l ++ [x]) = 256 * valR l + x.toNat := by
  unfold valR
  rw [List.reverse_append]
  simp [valL]
  omega
theorem valR_lt (l : List UInt8) : valR l < 256 ^ l.length := by
  have := val_lt l.reverse
  rwa [List.length_reverse] at this
/-- the int whose encoding s begins with, and the number of its bytes -/
def leadP (s : List UInt8) : Int × Nat := match rdInt s with | none => (0, 0) | some (n, r) => (n, s.length - r.length)
theorem leadP_nil : leadP [] = (0, 0) := rfl
theorem leadP_cases (c : UInt8) (r : List UInt8) (F : List UInt8 → List UInt8) (k : Nat) (neg : Bool) (hneg : neg = decide (c.toNat < 128)) (hF : ∀ l, F l = if neg then l.map (fun b => 255 - b) else l) (hk : k = if neg then 127 - c.toNat else c.toNat - 128) :
    leadP (c :: r) = if 8 < k ∨ r.length < k then (0, 0) else if (F (r.take k)).head? = some 0 then (0, 0) else if 9223372036854775807 < valR (F (r.take k)) then (0, 0) else (if neg then -(valR (F (r.take k)) : Int) - 1 else valR (F (r.take k)), 1 + k) := by
  subst hneg
  by_cases hc : c.toNat < 128
  · rw [decide_eq_true hc] at hF hk ⊢
    simp only [if_true] at hF hk ⊢
    unfold leadP rdInt
    simp only [if_pos hc, ← hk, hF]
    by_cases h1 : 8 < k ∨ r.length < k
    · rw [if_pos h1, if_pos h1]
    · rw [if_neg h1, if_neg h1]
      by_cases h2 : ((r.take k).map (fun b => 255 - b)).head? = some 0
      · rw [if_pos h2, if_pos h2]
      · rw [if_neg h2, if_neg h2]
        show (match (if 9223372036854775807 < valR ((r.take k).map (fun b => 255 - b)) then none else some (-(valR ((r.take k).map (fun b => 255 - b)) : Int) - 1, r.drop k)) with | none => (0, 0) | some (n, r') => (n, (c :: r).length - r'.length)) = _
        by_cases h3 : 9223372036854775807 < valR ((r.take k).map (fun b => 255 - b))
        · rw [if_pos h3, if_pos h3]
        · rw [if_neg h3, if_neg h3]
          simp only [List.length_cons, List.length_drop, Prod.mk.injEq, true_and]
          omega
  · rw [decide_eq_false hc] at hF hk ⊢
    simp only [Bool.false_eq_true, if_false] at hF hk ⊢
    unfold leadP rdInt
    simp only [if_neg hc, ← hk, hF]
    by_cases h1 : 8 < k ∨ r.length < k
    · rw [if_pos h1, if_pos h1]
    · rw [if_neg h1, if_neg h1]
      by_cases h2 : (r.take k).head? = some 0
      · rw [if_pos h2, if_pos h2]
      · rw [if_neg h2, if_neg h2]
        show (match (if 9223372036854775807 < valR (r.take k) then none else some ((valR (r.take k) : Int), r.drop k)) with | none => (0, 0) | some (n, r') => (n, (c :: r).length - r'.length)) = _
        by_cases h3 : 9223372036854775807 < valR (r.take k)
        · rw [if_pos h3, if_pos h3]
        · rw [if_neg h3, if_neg h3]
          simp only [List.length_cons, List.length_drop, Prod.mk.injEq, true_and]
          omega
theorem str_cons (s : ByteArray) (h : 0 < s.size) : s.data.toList = s[0] :: s.data.toList.drop 1 := by
  have hl : 0 < s.data.toList.length := by simpa using h
  have h1 : s.data.toList[0]? = some s[0] := by rw [List.getElem?_eq_getElem hl]; rfl
  cases hq : s.data.toList with
  | nil => rw [hq] at hl; simp at hl
  | cons a l =>
    rw [hq] at h1
    simp only [List.getElem?_cons_zero, Option.some.injEq] at h1
    rw [h1]
    rfl
theorem toList_ne (s : ByteArray) (h : 0 < s.size) : s.toList ≠ [] := by
  rw [ByteArray.toList_eq]
  intro e
  have h9 : s.data.toList.length = s.size := by simp
  rw [e] at h9
  simp at h9
  omega
theorem drop_get (s : ByteArray) (j : Nat) (h : j + 1 < s.size) : (s.data.toList.drop 1)[j]? = some s[j + 1] := by
  rw [List.getElem?_drop, Nat.add_comm 1 j, List.getElem?_eq_getElem (by simpa using h)]
  rfl
theorem u64_or (a x : Nat) (ha : a < 72057594037927936) (hx : x < 256) : bits BinOp.or IntKind.u64 ((a : Int) * 256) (x : Int) = ((256 * a + x : Nat) : Int) := by
  have h1 : 256 * a ||| x = 256 * a + x := by
    have := Nat.two_pow_add_eq_or_of_lt (i := 8) (b := x) (by simpa using hx) a
    simpa using this.symm
  have h0 : (a : Int) * 256 = ((256 * a : Nat) : Int) := by omega
  rw [h0]
  show IntKind.u64.wrap ((BitVec.ofInt 64 ((256 * a : Nat) : Int) ||| BitVec.ofInt 64 (x : Int)).toNat : Int) = _
  rw [BitVec.toNat_or, BitVec.ofInt_natCast, BitVec.ofInt_natCast, BitVec.toNat_ofNat, BitVec.toNat_ofNat, Nat.mod_eq_of_lt (by omega), Nat.mod_eq_of_lt (by omega), h1]
  exact IntWalk.u64_in _ (by omega)
theorem ret2_int {a b c d : Int} (h : a = b) (k : c = d) : Ending.returned (.tuple #[.int .i64 a, .int .i64 c]) = Ending.returned (.tuple #[.int .i64 b, .int .i64 d]) := by rw [h, k]
theorem head_flip (l : List UInt8) : (flipL l).head? = some 0 ↔ l.head? = some 255 := by
  cases l with
  | nil => simp [flipL]
  | cons x l =>
    simp only [flipL, List.map_cons, List.head?_cons, Option.some.injEq]
    constructor
    · intro h
      rw [← flip_flip x, h]
      rfl
    · rintro rfl
      rfl
theorem flip_toNat (b : UInt8) : (255 - b).toNat = 255 - b.toNat := by
  have := b.toNat_lt
  rw [UInt8.toNat_sub_of_le]
  · rfl
  · rw [UInt8.le_iff_toNat_le]; show b.toNat ≤ 255; omega
end Go.Proofs.YtnomicccdhilbaaDoor
