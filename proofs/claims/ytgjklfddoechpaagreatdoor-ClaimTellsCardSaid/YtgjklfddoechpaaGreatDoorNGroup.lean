/- Texts merged: NDiv NPow NGroup -/
/- The division of 128 by 64 bits, digit by digit: plain laws. -/
namespace Go.Proofs.YtgjklfddoechpaaGreatDoor
section
variable {B : Nat}
/-- one digit: what holds of the guess q and its rest r -/
structure DInv (B u y1 y0 u1 : Nat) (q r : Nat) : Prop where
  eq : u = q * y1 + r
  big : (u * B + u1) / (y1 * B + y0) ≤ q
  top : q ≤ B + 1
theorem split_q (B q y1 y0 r u1 : Nat) : (q * y1 + r) * B + u1 + q * y0 = q * (y1 * B + y0) + (r * B + u1) := by
  rw [Nat.add_mul, Nat.mul_add, Nat.mul_assoc]
  omega
theorem dinv_start {u y1 y0 u1 : Nat} (h1 : B ≤ 2 * y1) (h0 : y0 < B) (hu : u < y1 * B + y0) (hu1 : u1 < B) : DInv B u y1 y0 u1 (u / y1) (u % y1) := by
  have e : u = u / y1 * y1 + u % y1 := by rw [Nat.mul_comm]; exact (Nat.div_add_mod u y1).symm
  have hr := Nat.mod_lt u (show y1 > 0 by omega)
  refine ⟨e, ?_, ?_⟩
  · have hlt : u * B + u1 < (y1 * B + y0) * (u / y1 + 1) := by
      rw [Nat.mul_add, Nat.mul_one, Nat.add_mul]
      have e2 : y1 * B * (u / y1) = u / y1 * y1 * B := by rw [Nat.mul_comm (y1 * B), Nat.mul_assoc]
      rw [e2]
      have e3 : u * B = u / y1 * y1 * B + u % y1 * B := by conv => lhs; rw [e, Nat.add_mul]
      have e4 : u % y1 * B + B ≤ y1 * B := by rw [← Nat.succ_mul]; exact Nat.mul_le_mul_right _ hr
      omega
    have := (Nat.div_lt_iff_lt_mul (show 0 < y1 * B + y0 by omega)).2 (by rw [Nat.mul_comm]; exact hlt)
    omega
  · have h : u / y1 < B + 2 := by
      rw [Nat.div_lt_iff_lt_mul (by omega), Nat.add_mul, Nat.mul_comm B]
      omega
    omega
/-- the true digit is a digit -/
theorem dig_lt {u y1 y0 u1 : Nat} (hu : u < y1 * B + y0) (hu1 : u1 < B) : (u * B + u1) / (y1 * B + y0) < B := by
  rw [Nat.div_lt_iff_lt_mul (by omega), Nat.mul_comm B]
  have : u * B + B ≤ (y1 * B + y0) * B := by rw [← Nat.succ_mul]; exact Nat.mul_le_mul_right _ hu
  omega
/-- the guess is too great: one less -/
theorem dinv_less {u y1 y0 u1 q r : Nat} (h : DInv B u y1 y0 u1 q r) (hu : u < y1 * B + y0) (hu1 : u1 < B) (ht : B ≤ q ∨ r * B + u1 < q * y0) : 1 ≤ q ∧ DInv B u y1 y0 u1 (q - 1) (r + y1) := by
  have hlt : (u * B + u1) / (y1 * B + y0) < q := by
    rcases ht with ht | ht
    · exact Nat.lt_of_lt_of_le (dig_lt hu hu1) ht
    · rw [Nat.div_lt_iff_lt_mul (by omega)]
      have := split_q B q y1 y0 r u1
      rw [← h.eq] at this
      omega
  have hq : 1 ≤ q := Nat.lt_of_le_of_lt (Nat.zero_le _) hlt
  refine ⟨hq, ?_, by omega, by have := h.top; omega⟩
  have := h.eq
  obtain ⟨p, rfl⟩ : ∃ p, q = p + 1 := ⟨q - 1, by omega⟩
  rw [Nat.succ_mul] at this
  rw [Nat.add_sub_cancel]
  omega
/-- the guess is the digit -/
theorem dinv_done {u y1 y0 u1 q r : Nat} (h : DInv B u y1 y0 u1 q r) (hY : 0 < y1 * B + y0) (ht : q * y0 ≤ r * B + u1) : q = (u * B + u1) / (y1 * B + y0) := by
  have : q ≤ (u * B + u1) / (y1 * B + y0) := by
    rw [Nat.le_div_iff_mul_le hY]
    have := split_q B q y1 y0 r u1
    rw [← h.eq] at this
    omega
  have := h.big
  omega
theorem dinv_break {u y1 y0 u1 q r : Nat} (h : DInv B u y1 y0 u1 q r) (hY : 0 < y1 * B + y0) (h0 : y0 < B) (hq : q ≤ B) (hr : B ≤ r) : q = (u * B + u1) / (y1 * B + y0) := by
  refine dinv_done h hY ?_
  have a : q * y0 ≤ B * B := Nat.mul_le_mul hq (by omega)
  have b : B * B ≤ r * B := Nat.mul_le_mul_right _ hr
  omega
end
/-- two digits make the quotient -/
theorem two_digits (B u y u1 u0 : Nat) (hy : 0 < y) :
    (u * B + u1) / y * B + ((u * B + u1) % y * B + u0) / y = (u * (B * B) + u1 * B + u0) / y ∧ ((u * B + u1) % y * B + u0) % y = (u * (B * B) + u1 * B + u0) % y := by
  have e : u * (B * B) + u1 * B + u0 = y * ((u * B + u1) / y * B) + ((u * B + u1) % y * B + u0) := by
    have h := Nat.div_add_mod (u * B + u1) y
    have h2 : (u * B + u1) * B = (y * ((u * B + u1) / y) + (u * B + u1) % y) * B := by rw [h]
    rw [Nat.add_mul, Nat.add_mul, Nat.mul_assoc, Nat.mul_assoc] at h2
    omega
  rw [e, Nat.mul_add_div hy, Nat.mul_add_mod]
  exact ⟨rfl, rfl⟩
/-- shifting both changes the rest alone -/
theorem shift_div (n y k : Nat) (hk : 0 < k) : n * k / (y * k) = n / y ∧ n * k % (y * k) = n % y * k :=
  ⟨Nat.mul_div_mul_right _ _ hk, Nat.mul_mod_mul_right _ _ _⟩
end Go.Proofs.YtgjklfddoechpaaGreatDoor
/- Powers modulo a number: plain laws. -/
namespace Go.Proofs.YtgjklfddoechpaaGreatDoor
/-- a to the e, modulo m -/
def powM (a e m : Nat) : Nat := a ^ e % m
/-- the same by squaring; fuel first -/
def powF (m : Nat) : Nat → Nat → Nat → Nat
  | 0, _, _ => 1 % m
  | f + 1, a, e => if e = 0 then 1 % m else
      let h := powF m f (a * a % m) (e / 2)
      if e % 2 = 1 then a * h % m else h
theorem powF_eq (m : Nat) : ∀ (f a e : Nat), e < 2 ^ f → powF m f a e = a ^ e % m
  | 0, a, e, h => by
    have : e = 0 := by simpa using h
    subst this
    rfl
  | f + 1, a, e, h => by
    simp only [powF]
    by_cases h0 : e = 0
    · rw [if_pos h0, h0, Nat.pow_zero]
    · rw [if_neg h0, powF_eq m f (a * a % m) (e / 2) (by rw [Nat.pow_succ] at h; omega)]
      have e1 : (a * a % m) ^ (e / 2) % m = a ^ (2 * (e / 2)) % m := by
        rw [← Nat.pow_mod, Nat.pow_mul, Nat.pow_two]
      rw [e1]
      by_cases h1 : e % 2 = 1
      · rw [if_pos h1]
        have e2 : a ^ e = a * a ^ (2 * (e / 2)) := by
          conv => lhs; rw [show e = 2 * (e / 2) + 1 by omega, Nat.pow_succ, Nat.mul_comm]
        rw [e2, Nat.mul_mod, Nat.mod_mod, ← Nat.mul_mod]
      · rw [if_neg h1]
        have e2 : 2 * (e / 2) = e := by omega
        rw [e2]
def gP : Nat := 2305843009213691579
def gQ : Nat := 1152921504606845789
theorem four_q : 4 ^ gQ % gP = 1 := by
  rw [← powF_eq gP 61 4 gQ (by decide +kernel)]
  decide +kernel
/-- a prime -/
def Prm (n : Nat) : Prop := 2 ≤ n ∧ ∀ d, d ∣ n → d = 1 ∨ d = n
theorem mod_mul {a b c m : Nat} (h : a % m = b % m) : a * c % m = b * c % m := by rw [Nat.mul_mod, h, ← Nat.mul_mod]
theorem mod_pow {a b m : Nat} (h : a % m = b % m) (k : Nat) : a ^ k % m = b ^ k % m := by rw [Nat.pow_mod, h, ← Nat.pow_mod]
theorem pow_one_mod {a m : Nat} (h : a % m = 1 % m) (k : Nat) : a ^ k % m = 1 % m := by rw [mod_pow h, Nat.one_pow]
theorem order_one {b q d : Nat} (hq : Prm q) (h : b ^ q % d = 1 % d) : ∀ t, 0 < t → t < q → b ^ t % d = 1 % d → b % d = 1 % d := by
  intro t
  induction t using Nat.strongRecOn with
  | ind t ih =>
    intro h0 hlt ht
    have hs : b ^ (q % t) % d = 1 % d := by
      have e : b ^ q = (b ^ t) ^ (q / t) * b ^ (q % t) := by
        rw [← Nat.pow_mul, ← Nat.pow_add, Nat.div_add_mod]
      rw [e, mod_mul (pow_one_mod ht _), Nat.one_mul] at h
      exact h
    by_cases hz : q % t = 0
    · rcases hq.2 t (Nat.dvd_of_mod_eq_zero hz) with h1 | h1
      · rw [h1, Nat.pow_one] at ht
        exact ht
      · omega
    · exact ih (q % t) (Nat.mod_lt _ h0) (Nat.pos_of_ne_zero hz) (Nat.lt_trans (Nat.mod_lt _ h0) hlt) hs
theorem pigeon : ∀ (m n : Nat) (f : Nat → Nat), (∀ i, i < n → f i < m) → (∀ i j, i < n → j < n → f i = f j → i = j) → n ≤ m
  | 0, n, f, h1, _ => by
    rcases Nat.eq_zero_or_pos n with h | h
    · omega
    · exact absurd (h1 0 h) (Nat.not_lt_zero _)
  | m + 1, n, f, h1, h2 => by
    by_cases hex : ∃ i, i < n ∧ f i = m
    · obtain ⟨i, hi, hfi⟩ := hex
      have := pigeon m (n - 1) (fun j => if j < i then f j else f (j + 1)) (fun j hj => by
        split
        · have a := h1 j (by omega)
          have : f j ≠ m := fun e => by have := h2 j i (by omega) hi (e.trans hfi.symm); omega
          omega
        · have a := h1 (j + 1) (by omega)
          have : f (j + 1) ≠ m := fun e => by have := h2 (j + 1) i (by omega) hi (e.trans hfi.symm); omega
          omega) (fun j k hj hk he => by
        split at he <;> split at he
        · exact h2 _ _ (by omega) (by omega) he
        · have := h2 _ _ (by omega) (by omega) he; omega
        · have := h2 _ _ (by omega) (by omega) he; omega
        · have := h2 _ _ (by omega) (by omega) he; omega)
      omega
    · have := pigeon m n f (fun i hi => by
        have a := h1 i hi
        have : f i ≠ m := fun e => hex ⟨i, hi, e⟩
        omega) h2
      omega
/-- a divisor of n is at least the order of a number whose powers are 1 -/
theorem div_big {n q b d : Nat} (hq : Prm q) (hb1 : 1 ≤ b) (hb : b ^ q % n = 1 % n) (hg : Nat.gcd (b - 1) n = 1) (hd : d ∣ n) (hd1 : d ≠ 1) (hn : 0 < n) : q ≤ d := by
  have hd0 : 0 < d := Nat.pos_of_dvd_of_pos hd hn
  have hbd : b ^ q % d = 1 % d := by
    rw [← Nat.mod_mod_of_dvd (b ^ q) hd, hb, Nat.mod_mod_of_dvd 1 hd]
  have hne : b % d ≠ 1 % d := by
    intro e
    have h1 : d ∣ b - 1 := by
      refine Nat.dvd_of_mod_eq_zero ?_
      obtain ⟨c, rfl⟩ : ∃ c, b = c + 1 := ⟨b - 1, by omega⟩
      rw [Nat.add_sub_cancel]
      have h1 : (c + 1) % d = (0 + 1) % d := by simpa using e
      have h2 : (c + 1 + (d - 1)) % d = (0 + 1 + (d - 1)) % d := by rw [Nat.add_mod, h1, ← Nat.add_mod]
      rw [show c + 1 + (d - 1) = c + d by omega, show 0 + 1 + (d - 1) = d by omega, Nat.add_mod_right, Nat.mod_self] at h2
      exact h2
    have := Nat.dvd_gcd h1 hd
    rw [hg] at this
    exact hd1 (Nat.dvd_one.1 this)
  refine pigeon d q (fun i => b ^ i % d) (fun i _ => Nat.mod_lt _ hd0) ?_
  have key : ∀ i j, i < j → j < q → b ^ i % d = b ^ j % d → False := fun i j hij hj he => by
    have e1 : b ^ i * b ^ (q - i) = b ^ q := by rw [← Nat.pow_add]; congr 1; omega
    have e2 : b ^ j * b ^ (q - i) = b ^ q * b ^ (j - i) := by rw [← Nat.pow_add, ← Nat.pow_add]; congr 1; omega
    have h1 := mod_mul (c := b ^ (q - i)) he
    rw [e1, e2, mod_mul hbd, Nat.one_mul, hbd] at h1
    exact hne (order_one hq hbd (j - i) (by omega) (by omega) h1.symm)
  intro i j hi hj he
  rcases Nat.lt_trichotomy i j with h | h | h
  · exact (key i j h hj he).elim
  · exact h
  · exact (key j i h hi he.symm).elim
theorem pock {n q b : Nat} (hq : Prm q) (h1 : 1 < n) (hn : n < q * q) (hb1 : 1 ≤ b) (hb : b ^ q % n = 1 % n) (hg : Nat.gcd (b - 1) n = 1) : Prm n := by
  refine ⟨h1, fun d hd => ?_⟩
  by_cases e1 : d = 1
  · exact Or.inl e1
  · obtain ⟨e, he⟩ := hd
    by_cases e2 : e = 1
    · exact Or.inr (by rw [he, e2, Nat.mul_one])
    · exfalso
      have a := div_big hq hb1 hb hg ⟨e, he⟩ e1 (by omega)
      have c := div_big hq hb1 hb hg ⟨d, by rw [he, Nat.mul_comm]⟩ e2 (by omega)
      have := Nat.mul_le_mul a c
      omega
/-- no number from lo on, 2 ^ k of them, divides n -/
def noDiv (n : Nat) : Nat → Nat → Bool
  | 0, lo => n % lo != 0
  | k + 1, lo => noDiv n k lo && noDiv n k (lo + 2 ^ k)
theorem noDiv_spec (n : Nat) : ∀ (k lo d : Nat), noDiv n k lo = true → lo ≤ d → d < lo + 2 ^ k → n % d ≠ 0
  | 0, lo, d, h, h1, h2 => by
    have : d = lo := by rw [Nat.pow_zero] at h2; omega
    subst this
    simpa [noDiv] using h
  | k + 1, lo, d, h, h1, h2 => by
    simp only [noDiv, Bool.and_eq_true] at h
    rw [Nat.pow_succ] at h2
    by_cases hd : d < lo + 2 ^ k
    · exact noDiv_spec n k lo d h.1 h1 hd
    · exact noDiv_spec n k (lo + 2 ^ k) d h.2 (by omega) (by omega)
theorem trial {n k : Nat} (h2 : 2 ≤ n) (h : noDiv n k 2 = true) (hk : n < (2 + 2 ^ k) * (2 + 2 ^ k)) : Prm n := by
  refine ⟨h2, fun d hd => ?_⟩
  by_cases e1 : d = 1
  · exact Or.inl e1
  · obtain ⟨e, he⟩ := hd
    by_cases e2 : e = 1
    · exact Or.inr (by rw [he, e2, Nat.mul_one])
    · exfalso
      have d0 : d ≠ 0 := fun h0 => by rw [h0, Nat.zero_mul] at he; omega
      have e0 : e ≠ 0 := fun h0 => by rw [h0, Nat.mul_zero] at he; omega
      by_cases hd : d < 2 + 2 ^ k
      · exact noDiv_spec n k 2 d h (by omega) hd (by rw [he, Nat.mul_mod_right])
      · by_cases hee : e < 2 + 2 ^ k
        · exact noDiv_spec n k 2 e h (by omega) hee (by rw [he, Nat.mul_mod_left])
        · have := Nat.mul_le_mul (Nat.le_of_not_lt hd) (Nat.le_of_not_lt hee)
          omega
theorem prm_p0 : Prm 5671741379 := trial (k := 17) (by decide) (by decide +kernel) (by decide)
theorem prm_r : Prm 288230376151711447 :=
  pock (b := 269194018563725675) prm_p0 (by decide) (by decide) (by decide) (by rw [← powF_eq 288230376151711447 33 269194018563725675 5671741379 (by decide)]; decide +kernel) (by decide +kernel)
theorem prm_q : Prm gQ :=
  pock (b := 16) prm_r (by decide) (by decide) (by decide) (by rw [← powF_eq gQ 58 16 288230376151711447 (by decide)]; decide +kernel) (by decide +kernel)
/-- no lesser power of 4 is 1 -/
theorem four_ne {x : Nat} (h0 : 0 < x) (h : x < gQ) : 4 ^ x % gP ≠ 1 := by
  intro e
  have := order_one prm_q (b := 4) (d := gP) (by rw [four_q]; decide) x h0 h (by rw [e]; decide)
  revert this
  decide
end Go.Proofs.YtgjklfddoechpaaGreatDoor
/- The group of order gQ modulo gP: plain laws. -/
namespace Go.Proofs.YtgjklfddoechpaaGreatDoor
theorem pow_q {y : Nat} (h : y ^ gQ % gP = 1) (k : Nat) : y ^ (gQ * k) % gP = 1 := by
  have : (1 : Nat) % gP = 1 := by decide
  rw [Nat.pow_mul, pow_one_mod (m := gP) (by rw [this]; exact h) k, this]
theorem pow_red {y : Nat} (h : y ^ gQ % gP = 1) (k : Nat) : y ^ (k % gQ) % gP = y ^ k % gP := by
  have e : y ^ k = y ^ (gQ * (k / gQ)) * y ^ (k % gQ) := by rw [← Nat.pow_add, Nat.div_add_mod]
  rw [e, Nat.mul_mod, pow_q h, Nat.one_mul, Nat.mod_mod]
/-- a power of an element, as an element -/
theorem in_pow {y : Nat} (h : y ^ gQ % gP = 1) (k : Nat) : (y ^ k % gP) ^ gQ % gP = 1 := by
  rw [← Nat.pow_mod, ← Nat.pow_mul, Nat.mul_comm, pow_q h]
theorem in_mul {a b : Nat} (ha : a ^ gQ % gP = 1) (hb : b ^ gQ % gP = 1) : (a * b % gP) ^ gQ % gP = 1 := by
  rw [← Nat.pow_mod, Nat.mul_pow, Nat.mul_mod, ha, hb]
  decide
theorem in_pos {y : Nat} (h : y ^ gQ % gP = 1) : 1 ≤ y := by
  rcases Nat.eq_zero_or_pos y with h0 | h0
  · rw [h0, Nat.zero_pow (by decide)] at h
    exact absurd h (by decide)
  · exact h0
theorem four_in (x : Nat) : (4 ^ x % gP) ^ gQ % gP = 1 := in_pow four_q x
theorem lt_p (a : Nat) : a % gP < gP := Nat.mod_lt _ (by decide)
/-- what a signature stands for: 4 to the nonce -/
theorem element_is (x n e : Nat) (he : e ≤ gQ) : (4 ^ ((n + e * x) % gQ) % gP) * ((4 ^ x % gP) ^ (gQ - e) % gP) % gP = 4 ^ n % gP := by
  rw [pow_red four_q, ← Nat.pow_mod, ← Nat.mul_mod, ← Nat.pow_mul, ← Nat.pow_add]
  have e1 : n + e * x + x * (gQ - e) = gQ * x + n := by
    obtain ⟨d, hd⟩ : ∃ d, gQ = e + d := ⟨gQ - e, by omega⟩
    rw [hd, Nat.add_sub_cancel_left, Nat.add_mul, Nat.mul_comm x d]
    omega
  rw [e1, Nat.pow_add, Nat.mul_mod, pow_q four_q, Nat.one_mul, Nat.mod_mod]
/-- the inverse by the power P - 2 -/
theorem inv_mul {z : Nat} (h : z ^ gQ % gP = 1) : (z ^ (gP - 2) % gP) * z % gP = 1 := by
  rw [Nat.mul_mod, Nat.mod_mod, ← Nat.mul_mod, ← Nat.pow_succ]
  rw [show (gP - 2).succ = gQ * 2 by decide, pow_q h]
/-- an inverse is unique -/
theorem inv_unique {a b z : Nat} (ha : a * z % gP = 1) (hb : b * z % gP = 1) : a % gP = b % gP := by
  have h1 : a * z * b % gP = b % gP := by rw [Nat.mul_mod, ha, Nat.one_mul, Nat.mod_mod]
  have h2 : b * z * a % gP = a % gP := by rw [Nat.mul_mod, hb, Nat.one_mul, Nat.mod_mod]
  rw [← h1, ← h2]
  congr 1
  rw [Nat.mul_assoc, Nat.mul_assoc, Nat.mul_left_comm b z a, Nat.mul_comm b a, Nat.mul_left_comm a z b]
/-- y to the Q - E is the inverse of y to the E -/
theorem rest_inv {y e : Nat} (h : y ^ gQ % gP = 1) (he : e ≤ gQ) : (y ^ (gQ - e) % gP) * (y ^ e % gP) % gP = 1 := by
  rw [← Nat.mul_mod, ← Nat.pow_add, Nat.sub_add_cancel he, h]
/-- the opposite of an element is none -/
theorem neg_pow {y : Nat} (hy : y ≤ gP) (h : y ^ gQ % gP = 1) : (gP - y) ^ gQ % gP = gP - 1 := by
  have key : ∀ k : Nat, (gP - y) ^ (2 * k) % gP = y ^ (2 * k) % gP := fun k => by
    have e : (gP - y) ^ 2 % gP = y ^ 2 % gP := by
      obtain ⟨d, hd⟩ : ∃ d, gP = y + d := ⟨gP - y, by omega⟩
      have e1 : gP - y = d := by omega
      rw [e1]
      have e2 : d * d + gP * y = y * y + gP * d := by rw [hd, Nat.add_mul, Nat.add_mul]; have := Nat.mul_comm d y; omega
      have h1 : (d * d + gP * y) % gP = d * d % gP := by rw [Nat.add_mul_mod_self_left]
      have h2 : (y * y + gP * d) % gP = y * y % gP := by rw [Nat.add_mul_mod_self_left]
      rw [Nat.pow_two, Nat.pow_two, ← h1, ← h2, e2]
    rw [Nat.pow_mul, Nat.pow_mul]
    exact mod_pow e k
  have hq : gQ = 2 * (gQ / 2) + 1 := by decide
  have h0 : y ^ gQ % gP = 1 := h
  rw [hq, Nat.pow_succ, Nat.mul_mod, key, ← Nat.mul_mod]
  have h1 : y ^ (2 * (gQ / 2)) * y % gP = 1 := by rw [← Nat.pow_succ, Nat.succ_eq_add_one, ← hq]; exact h0
  have h2 : (y ^ (2 * (gQ / 2)) * (gP - y) + y ^ (2 * (gQ / 2)) * y) % gP = 0 := by
    rw [← Nat.mul_add, Nat.sub_add_cancel hy, Nat.mul_mod_left]
  rw [Nat.add_mod, h1] at h2
  have h3 := lt_p (y ^ (2 * (gQ / 2)) * (gP - y))
  generalize y ^ (2 * (gQ / 2)) * (gP - y) % gP = t at *
  have hp : gP = 2305843009213691579 := rfl
  rw [hp] at h2 h3 ⊢
  omega
theorem two_tops {a x k : Nat} (b : Nat) (hb : b ≤ 1) : (a ^ k % x) * (a ^ k % x) % x * (if b = 1 then a else 1) % x = a ^ (2 * k + b) % x := by
  have e : a ^ (2 * k + b) = a ^ k * a ^ k * (if b = 1 then a else 1) := by
    rw [Nat.pow_add, Nat.two_mul, Nat.pow_add]
    rcases Nat.le_one_iff_eq_zero_or_eq_one.1 hb with h | h <;> subst h <;> simp
  rw [e, Nat.mul_mod (a ^ k * a ^ k), Nat.mul_mod (a ^ k) (a ^ k)]
  simp [Nat.mul_mod]
end Go.Proofs.YtgjklfddoechpaaGreatDoor
