/- The division of 128 by 64 bits, digit by digit: plain laws. -/

namespace Go.Proofs.YtepidpegoihllaaGreatDoor
section
variable {B : Nat}
/-- one digit: what holds of the guess q and its rest r -/
structure DInv (B u y1 y0 u1 : Nat) (q r : Nat) : Prop where
  eq : u = q * y1 + r
  big : (u * B + u1) / (y1 * B + y0) ≤ q
  top : q ≤ B + 1
theorem split_q (B q y1 y0 r u1 : Nat) : (q * y1 + r) * B + u1 + q * y0 = q * (y1 * B + y0) + (r * B + u1) := by
  rw [Nat.add_mul, Nat.mul_add, Nat.mul_assoc]
  omega
theorem dinv_start {u y1 y0 u1 : Nat} (h1 : B ≤ 2 * y1) (h0 : y0 < B) (hu : u < y1 * B + y0) (hu1 : u1 < B) : DInv B u y1 y0 u1 (u / y1) (u % y1) := by
  have e : u = u / y1 * y1 + u % y1 := by rw [Nat.mul_comm]; exact (Nat.div_add_mod u y1).symm
  have hr := Nat.mod_lt u (show y1 > 0 by omega)
  refine ⟨e, ?_, ?_⟩
  · have hlt : u * B + u1 < (y1 * B + y0) * (u / y1 + 1) := by
      rw [Nat.mul_add, Nat.mul_one, Nat.add_mul]
      have e2 : y1 * B * (u / y1) = u / y1 * y1 * B := by rw [Nat.mul_comm (y1 * B), Nat.mul_assoc]
      rw [e2]
      have e3 : u * B = u / y1 * y1 * B + u % y1 * B := by conv => lhs; rw [e, Nat.add_mul]
      have e4 : u % y1 * B + B ≤ y1 * B := by rw [← Nat.succ_mul]; exact Nat.mul_le_mul_right _ hr
      omega
    have := (Nat.div_lt_iff_lt_mul (show 0 < y1 * B + y0 by omega)).2 (by rw [Nat.mul_comm]; exact hlt)
    omega
  · have h : u / y1 < B + 2 := by
      rw [Nat.div_lt_iff_lt_mul (by omega), Nat.add_mul, Nat.mul_comm B]
      omega
    omega
/-- the true digit is a digit -/
theorem dig_lt {u y1 y0 u1 : Nat} (hu : u < y1 * B + y0) (hu1 : u1 < B) : (u * B + u1) / (y1 * B + y0) < B := by
  rw [Nat.div_lt_iff_lt_mul (by omega), Nat.mul_comm B]
  have : u * B + B ≤ (y1 * B + y0) * B := by rw [← Nat.succ_mul]; exact Nat.mul_le_mul_right _ hu
  omega
/-- the guess is too great: one less -/
theorem dinv_less {u y1 y0 u1 q r : Nat} (h : DInv B u y1 y0 u1 q r) (hu : u < y1 * B + y0) (hu1 : u1 < B) (ht : B ≤ q ∨ r * B + u1 < q * y0) : 1 ≤ q ∧ DInv B u y1 y0 u1 (q - 1) (r + y1) := by
  have hlt : (u * B + u1) / (y1 * B + y0) < q := by
    rcases ht with ht | ht
    · exact Nat.lt_of_lt_of_le (dig_lt hu hu1) ht
    · rw [Nat.div_lt_iff_lt_mul (by omega)]
      have := split_q B q y1 y0 r u1
      rw [← h.eq] at this
      omega
  have hq : 1 ≤ q := Nat.lt_of_le_of_lt (Nat.zero_le _) hlt
  refine ⟨hq, ?_, by omega, by have := h.top; omega⟩
  have := h.eq
  obtain ⟨p, rfl⟩ : ∃ p, q = p + 1 := ⟨q - 1, by omega⟩
  rw [Nat.succ_mul] at this
  rw [Nat.add_sub_cancel]
  omega
/-- the guess is the digit -/
theorem dinv_done {u y1 y0 u1 q r : Nat} (h : DInv B u y1 y0 u1 q r) (hY : 0 < y1 * B + y0) (ht : q * y0 ≤ r * B + u1) : q = (u * B + u1) / (y1 * B + y0) := by
  have : q ≤ (u * B + u1) / (y1 * B + y0) := by
    rw [Nat.le_div_iff_mul_le hY]
    have := split_q B q y1 y0 r u1
    rw [← h.eq] at this
    omega
  have := h.big
  omega
theorem dinv_break {u y1 y0 u1 q r : Nat} (h : DInv B u y1 y0 u1 q r) (hY : 0 < y1 * B + y0) (h0 : y0 < B) (hq : q ≤ B) (hr : B ≤ r) : q = (u * B + u1) / (y1 * B + y0) := by
  refine dinv_done h hY ?_
  have a : q * y0 ≤ B * B := Nat.mul_le_mul hq (by omega)
  have b : B * B ≤ r * B := Nat.mul_le_mul_right _ hr
  omega
end
/-- two digits make the quotient -/
theorem two_digits (B u y u1 u0 : Nat) (hy : 0 < y) :
    (u * B + u1) / y * B + ((u * B + u1) % y * B + u0) / y = (u * (B * B) + u1 * B + u0) / y ∧ ((u * B + u1) % y * B + u0) % y = (u * (B * B) + u1 * B + u0) % y := by
  have e : u * (B * B) + u1 * B + u0 = y * ((u * B + u1) / y * B) + ((u * B + u1) % y * B + u0) := by
    have h := Nat.div_add_mod (u * B + u1) y
    have h2 : (u * B + u1) * B = (y * ((u * B + u1) / y) + (u * B + u1) % y) * B := by rw [h]
    rw [Nat.add_mul, Nat.add_mul, Nat.mul_assoc, Nat.mul_assoc] at h2
    omega
  rw [e, Nat.mul_add_div hy, Nat.mul_add_mod]
  exact ⟨rfl, rfl⟩
/-- shifting both changes the rest alone -/
theorem shift_div (n y k : Nat) (hk : 0 < k) : n * k / (y * k) = n / y ∧ n * k % (y * k) = n % y * k :=
  ⟨Nat.mul_div_mul_right _ _ hk, Nat.mul_mod_mul_right _ _ _⟩
end Go.Proofs.YtepidpegoihllaaGreatDoor

