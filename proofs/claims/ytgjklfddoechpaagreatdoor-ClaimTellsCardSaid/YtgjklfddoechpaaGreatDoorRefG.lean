/- The words of a block and the states of the reference are those of the program: plain facts. -/
import Derived.Test.YtgjklfddoechpaaGreatDoorRefE
import Derived.Test.YtgjklfddoechpaaGreatDoorSShort
namespace Go.Proofs.YtgjklfddoechpaaGreatDoor
open Go.RowKit
/-- the word j out of the first k bytes -/
def wPart (l : List UInt8) (k j : Nat) : Nat :=
  (if 4 * j < k then byteAt l (4 * j) else 0) + (if 4 * j + 1 < k then byteAt l (4 * j + 1) * 256 else 0) + (if 4 * j + 2 < k then byteAt l (4 * j + 2) * 65536 else 0) + (if 4 * j + 3 < k then byteAt l (4 * j + 3) * 16777216 else 0)
theorem or_high (o b r M : Nat) (hM : M = 2 ^ (8 * r)) (ho : o < M) (hb : b < 256) (hr : r < 4) : bits .or .u32 (o : Int) ((b : Int) * 2 ^ (8 * r) % 4294967296) = ((o + b * M : Nat) : Int) := by
  have h1 : b * M + o = b * M ||| o := by
    have := Nat.shiftLeft_add_eq_or_of_lt (a := b) (b := o) (i := 8 * r) (by rw [← hM]; exact ho)
    simpa [Nat.shiftLeft_eq, ← hM] using this
  have hMl : M ≤ 16777216 := by
    rw [hM]
    exact Nat.le_trans (Nat.pow_le_pow_right (by decide) (show 8 * r ≤ 24 by omega)) (by decide)
  have h2 : b * M < 4294967296 := by
    have : b * M ≤ 255 * 16777216 := Nat.mul_le_mul (by omega) hMl
    omega
  have h3 : ((b : Int) * 2 ^ (8 * r) % 4294967296) = ((b * M : Nat) : Int) := by
    rw [hM]
    have e : ((b : Int) * 2 ^ (8 * r)) = ((b * 2 ^ (8 * r) : Nat) : Int) := by push_cast; rfl
    rw [e, ← hM]
    omega
  rw [h3, u32_or_nat _ _ (by omega) h2, Nat.or_comm, ← h1, Nat.add_comm]
theorem wUpto_part (l : List UInt8) : ∀ k, k ≤ 64 → ∀ j, j < 16 → (wUpto l k)[j]?.getD 0 = ((wPart l k j : Nat) : Int)
  | 0, _, j, hj => by
    simp only [wUpto, wPart]
    rw [List.getElem?_replicate, if_pos hj]
    simp
  | k + 1, hk, j, hj => by
    have ih := wUpto_part l k (by omega)
    simp only [wUpto]
    rw [List.getElem?_set, wUpto_len]
    by_cases e : k / 4 = j
    · subst e
      rw [if_pos rfl, if_pos hj, Option.getD_some, ih _ hj]
      have hb := byteAt_lt l k
      have b0 := byteAt_lt l (4 * (k / 4))
      have b1 := byteAt_lt l (4 * (k / 4) + 1)
      have b2 := byteAt_lt l (4 * (k / 4) + 2)
      show bits .or .u32 _ ((byteAt l k : Int) * 2 ^ (8 * (k % 4)) % 4294967296) = _
      have hr : k % 4 = 0 ∨ k % 4 = 1 ∨ k % 4 = 2 ∨ k % 4 = 3 := by omega
      unfold wPart
      rcases hr with hr | hr | hr | hr
      · have hk4 : 4 * (k / 4) = k := by omega
        rw [hr, if_neg (by omega), if_neg (by omega), if_neg (by omega), if_neg (by omega), if_pos (by omega), if_neg (by omega), if_neg (by omega), if_neg (by omega), or_high _ _ 0 1 rfl (by omega) hb (by omega), hk4]
        omega
      · have hk4 : 4 * (k / 4) + 1 = k := by omega
        rw [hr, if_pos (by omega), if_neg (by omega), if_neg (by omega), if_neg (by omega), if_pos (by omega), if_pos (by omega), if_neg (by omega), if_neg (by omega), or_high _ _ 1 256 rfl (by omega) hb (by omega), hk4]
        omega
      · have hk4 : 4 * (k / 4) + 2 = k := by omega
        rw [hr, if_pos (by omega), if_pos (by omega), if_neg (by omega), if_neg (by omega), if_pos (by omega), if_pos (by omega), if_pos (by omega), if_neg (by omega), or_high _ _ 2 65536 rfl (by omega) hb (by omega), hk4]
        omega
      · have hk4 : 4 * (k / 4) + 3 = k := by omega
        rw [hr, if_pos (by omega), if_pos (by omega), if_pos (by omega), if_neg (by omega), if_pos (by omega), if_pos (by omega), if_pos (by omega), if_pos (by omega), or_high _ _ 3 16777216 rfl (by omega) hb (by omega), hk4]
        omega
    · rw [if_neg e, ih _ hj]
      have hne : ∀ i, i < 4 → (4 * j + i < k + 1 ↔ 4 * j + i < k) := fun i hi => by omega
      have h0 := hne 0 (by omega)
      simp only [Nat.add_zero] at h0
      simp only [wPart, h0, hne 1 (by omega), hne 2 (by omega), hne 3 (by omega)]
theorem blk_byte (l : List UInt8) (a i : Nat) (hi : i < 64) : byteAt (blk l a 64) i = byteAt l (a + i) := by
  unfold byteAt blk
  rw [List.getElem?_take, if_pos hi, List.getElem?_drop]
theorem byte_out (l : List UInt8) (i : Nat) (h : l.length ≤ i) : byteAt l i = 0 := by
  unfold byteAt
  rw [List.getElem?_eq_none h]
  rfl
theorem wUpto_mAt (l : List UInt8) (a L : Nat) (hL : (blk l a 64).length = L) : wUpto (blk l a 64) L = mAt l a := by
  have hL64 : L ≤ 64 := by rw [← hL]; unfold blk; rw [List.length_take]; omega
  apply List.ext_getElem
  · rw [wUpto_len, mAt_len]
  · intro j h1 h2
    have hj : j < 16 := by rw [wUpto_len] at h1; exact h1
    have e1 := wUpto_part (blk l a 64) L hL64 j hj
    rw [List.getElem?_eq_getElem h1, Option.getD_some] at e1
    have e2 : (mAt l a)[j]'h2 = ((topW l (a + 4 * j) 4 : Nat) : Int) := by simp [mAt]
    rw [e1]
    refine Eq.trans ?_ e2.symm
    have hz : ∀ i, (if i < L then byteAt (blk l a 64) i else 0) = byteAt (blk l a 64) i := fun i => by
      by_cases h : i < L
      · rw [if_pos h]
      · rw [if_neg h, byte_out _ _ (by omega)]
    have hm : ∀ i M : Nat, (if i < L then byteAt (blk l a 64) i * M else 0) = byteAt (blk l a 64) i * M := fun i M => by
      by_cases h : i < L
      · rw [if_pos h]
      · rw [if_neg h, byte_out _ _ (by omega), Nat.zero_mul]
    unfold wPart
    rw [hz, hm, hm, hm, blk_byte _ _ _ (by omega), blk_byte _ _ _ (by omega), blk_byte _ _ _ (by omega), blk_byte _ _ _ (by omega)]
    simp only [topW, ← Nat.add_assoc, Nat.sub_zero]
    show ((_ : Nat) : Int) = ((_ : Nat) : Int)
    congr 1
    simp only [show (3 - 1 : Nat) = 2 from rfl, show (3 - 2 : Nat) = 1 from rfl, show (3 - 3 : Nat) = 0 from rfl, Nat.add_zero, Nat.zero_mul, Nat.zero_add]
    omega
/-- the reference's state after the blocks 0 .. k -/
def rst (l : List UInt8) : Nat → List Int
  | 0 => compL h0L (mAt l 0) ((min (0 + 64) l.length : Nat) : Int) (decide (min (0 + 64) l.length = l.length))
  | k + 1 => compL (rst l k) (mAt l (64 * (k + 1))) ((min (64 * (k + 1) + 64) l.length : Nat) : Int) (decide (min (64 * (k + 1) + 64) l.length = l.length))
theorem rst_len (l : List UInt8) : ∀ k, (rst l k).length = 8
  | 0 => by rw [rst, compL, hOut_len]; rfl
  | k + 1 => by rw [rst, compL, hOut_len]; exact rst_len l k
theorem rst_32 (l : List UInt8) : ∀ k, W32 (rst l k)
  | 0 => hOut_32 h0L_32 _ _
  | k + 1 => hOut_32 (rst_32 l k) _ _
theorem rst_prev (l : List UInt8) : ∀ k, (k = 0 ∨ 64 * k < l.length) → rst l k = compL (hAt l k) (mAt l (64 * k)) ((min (64 * k + 64) l.length : Nat) : Int) (decide (min (64 * k + 64) l.length = l.length))
  | 0, _ => rfl
  | k + 1, h => by
    have hk : 64 * (k + 1) < l.length := by omega
    have ih := rst_prev l k (by omega)
    have e : rst l k = hAt l (k + 1) := by
      have h1 : min (64 * k + 64) l.length = 64 * (k + 1) := by omega
      have h2 : decide (64 * (k + 1) = l.length) = false := by simp; omega
      rw [ih, h1, h2, hAt, wUpto_mAt l (64 * k) 64 (by unfold blk; rw [List.length_take, List.length_drop]; omega)]
    rw [rst, e]
theorem rst_last (l : List UInt8) (k : Nat) (h : k = 0 ∨ 64 * k < l.length) (h2 : l.length ≤ 64 * (k + 1)) : rst l k = hFin l := by
  have h1 : min (64 * k + 64) l.length = l.length := by omega
  have h3 : (l.length - 1) / 64 = k := by omega
  rw [rst_prev l k h, h1, hFin, h3, decide_eq_true rfl, wUpto_mAt l (64 * k) (l.length - 64 * k) (by unfold blk; rw [List.length_take, List.length_drop]; omega)]
end Go.Proofs.YtgjklfddoechpaaGreatDoor
