/- The group of order gQ modulo gP: plain laws. -/
import Derived.Test.YtgjklfddoechpaaDoorNPow
namespace Go.Proofs.YtgjklfddoechpaaDoor
theorem pow_q {y : Nat} (h : y ^ gQ % gP = 1) (k : Nat) : y ^ (gQ * k) % gP = 1 := by
  have : (1 : Nat) % gP = 1 := by decide
  rw [Nat.pow_mul, pow_one_mod (m := gP) (by rw [this]; exact h) k, this]
theorem pow_red {y : Nat} (h : y ^ gQ % gP = 1) (k : Nat) : y ^ (k % gQ) % gP = y ^ k % gP := by
  have e : y ^ k = y ^ (gQ * (k / gQ)) * y ^ (k % gQ) := by rw [← Nat.pow_add, Nat.div_add_mod]
  rw [e, Nat.mul_mod, pow_q h, Nat.one_mul, Nat.mod_mod]
/-- a power of an element, as an element -/
theorem in_pow {y : Nat} (h : y ^ gQ % gP = 1) (k : Nat) : (y ^ k % gP) ^ gQ % gP = 1 := by
  rw [← Nat.pow_mod, ← Nat.pow_mul, Nat.mul_comm, pow_q h]
theorem in_mul {a b : Nat} (ha : a ^ gQ % gP = 1) (hb : b ^ gQ % gP = 1) : (a * b % gP) ^ gQ % gP = 1 := by
  rw [← Nat.pow_mod, Nat.mul_pow, Nat.mul_mod, ha, hb]
  decide
theorem in_pos {y : Nat} (h : y ^ gQ % gP = 1) : 1 ≤ y := by
  rcases Nat.eq_zero_or_pos y with h0 | h0
  · rw [h0, Nat.zero_pow (by decide)] at h
    exact absurd h (by decide)
  · exact h0
theorem four_in (x : Nat) : (4 ^ x % gP) ^ gQ % gP = 1 := in_pow four_q x
theorem lt_p (a : Nat) : a % gP < gP := Nat.mod_lt _ (by decide)
/-- what a signature stands for: 4 to the nonce -/
theorem element_is (x n e : Nat) (he : e ≤ gQ) : (4 ^ ((n + e * x) % gQ) % gP) * ((4 ^ x % gP) ^ (gQ - e) % gP) % gP = 4 ^ n % gP := by
  rw [pow_red four_q, ← Nat.pow_mod, ← Nat.mul_mod, ← Nat.pow_mul, ← Nat.pow_add]
  have e1 : n + e * x + x * (gQ - e) = gQ * x + n := by
    obtain ⟨d, hd⟩ : ∃ d, gQ = e + d := ⟨gQ - e, by omega⟩
    rw [hd, Nat.add_sub_cancel_left, Nat.add_mul, Nat.mul_comm x d]
    omega
  rw [e1, Nat.pow_add, Nat.mul_mod, pow_q four_q, Nat.one_mul, Nat.mod_mod]
/-- the inverse by the power P - 2 -/
theorem inv_mul {z : Nat} (h : z ^ gQ % gP = 1) : (z ^ (gP - 2) % gP) * z % gP = 1 := by
  rw [Nat.mul_mod, Nat.mod_mod, ← Nat.mul_mod, ← Nat.pow_succ]
  rw [show (gP - 2).succ = gQ * 2 by decide, pow_q h]
/-- an inverse is unique -/
theorem inv_unique {a b z : Nat} (ha : a * z % gP = 1) (hb : b * z % gP = 1) : a % gP = b % gP := by
  have h1 : a * z * b % gP = b % gP := by rw [Nat.mul_mod, ha, Nat.one_mul, Nat.mod_mod]
  have h2 : b * z * a % gP = a % gP := by rw [Nat.mul_mod, hb, Nat.one_mul, Nat.mod_mod]
  rw [← h1, ← h2]
  congr 1
  rw [Nat.mul_assoc, Nat.mul_assoc, Nat.mul_left_comm b z a, Nat.mul_comm b a, Nat.mul_left_comm a z b]
/-- y to the Q - E is the inverse of y to the E -/
theorem rest_inv {y e : Nat} (h : y ^ gQ % gP = 1) (he : e ≤ gQ) : (y ^ (gQ - e) % gP) * (y ^ e % gP) % gP = 1 := by
  rw [← Nat.mul_mod, ← Nat.pow_add, Nat.sub_add_cancel he, h]
/-- the opposite of an element is none -/
theorem neg_pow {y : Nat} (hy : y ≤ gP) (h : y ^ gQ % gP = 1) : (gP - y) ^ gQ % gP = gP - 1 := by
  have key : ∀ k : Nat, (gP - y) ^ (2 * k) % gP = y ^ (2 * k) % gP := fun k => by
    have e : (gP - y) ^ 2 % gP = y ^ 2 % gP := by
      obtain ⟨d, hd⟩ : ∃ d, gP = y + d := ⟨gP - y, by omega⟩
      have e1 : gP - y = d := by omega
      rw [e1]
      have e2 : d * d + gP * y = y * y + gP * d := by rw [hd, Nat.add_mul, Nat.add_mul]; have := Nat.mul_comm d y; omega
      have h1 : (d * d + gP * y) % gP = d * d % gP := by rw [Nat.add_mul_mod_self_left]
      have h2 : (y * y + gP * d) % gP = y * y % gP := by rw [Nat.add_mul_mod_self_left]
      rw [Nat.pow_two, Nat.pow_two, ← h1, ← h2, e2]
    rw [Nat.pow_mul, Nat.pow_mul]
    exact mod_pow e k
  have hq : gQ = 2 * (gQ / 2) + 1 := by decide
  have h0 : y ^ gQ % gP = 1 := h
  rw [hq, Nat.pow_succ, Nat.mul_mod, key, ← Nat.mul_mod]
  have h1 : y ^ (2 * (gQ / 2)) * y % gP = 1 := by rw [← Nat.pow_succ, Nat.succ_eq_add_one, ← hq]; exact h0
  have h2 : (y ^ (2 * (gQ / 2)) * (gP - y) + y ^ (2 * (gQ / 2)) * y) % gP = 0 := by
    rw [← Nat.mul_add, Nat.sub_add_cancel hy, Nat.mul_mod_left]
  rw [Nat.add_mod, h1] at h2
  have h3 := lt_p (y ^ (2 * (gQ / 2)) * (gP - y))
  generalize y ^ (2 * (gQ / 2)) * (gP - y) % gP = t at *
  have hp : gP = 2305843009213691579 := rfl
  rw [hp] at h2 h3 ⊢
  omega
theorem two_tops {a x k : Nat} (b : Nat) (hb : b ≤ 1) : (a ^ k % x) * (a ^ k % x) % x * (if b = 1 then a else 1) % x = a ^ (2 * k + b) % x := by
  have e : a ^ (2 * k + b) = a ^ k * a ^ k * (if b = 1 then a else 1) := by
    rw [Nat.pow_add, Nat.two_mul, Nat.pow_add]
    rcases Nat.le_one_iff_eq_zero_or_eq_one.1 hb with h | h <;> subst h <;> simp
  rw [e, Nat.mul_mod (a ^ k * a ^ k), Nat.mul_mod (a ^ k) (a ^ k)]
  simp [Nat.mul_mod]
end Go.Proofs.YtgjklfddoechpaaDoor
