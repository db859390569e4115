/- Plain laws of the CRC: it is linear, it is one division of the whole string seen as a number, and no step forgets a difference. -/
import Derived.Test.YtonhaoieeefglaaCrc
namespace Go.Proofs.Ytonhaoieeefglaa
theorem xor_div2 (a b : Nat) : (a ^^^ b) / 2 = a / 2 ^^^ b / 2 := by
  have := Nat.shiftRight_xor_distrib (a := a) (b := b) (i := 1)
  simpa [Nat.shiftRight_succ] using this
theorem xor_mod2 (a b : Nat) : (a ^^^ b) % 2 = (a % 2) ^^^ (b % 2) := by
  have := Nat.xor_mod_two_pow (a := a) (b := b) (n := 1)
  simpa using this
theorem xor_cancel (x y z : Nat) : x ^^^ z ^^^ (y ^^^ z) = x ^^^ y := by
  rw [Nat.xor_assoc, Nat.xor_comm y z, ← Nat.xor_assoc z z y, Nat.xor_self, Nat.zero_xor]
theorem crcBit_xor (a b : Nat) : crcBit (a ^^^ b) = crcBit a ^^^ crcBit b := by
  unfold crcBit
  rw [xor_mod2, xor_div2]
  rcases Nat.mod_two_eq_zero_or_one a with ha | ha <;> rcases Nat.mod_two_eq_zero_or_one b with hb | hb <;> rw [ha, hb]
  · rfl
  · show a / 2 ^^^ b / 2 ^^^ 33800 = a / 2 ^^^ (b / 2 ^^^ 33800)
    rw [Nat.xor_assoc]
  · show a / 2 ^^^ b / 2 ^^^ 33800 = a / 2 ^^^ 33800 ^^^ b / 2
    rw [Nat.xor_assoc, Nat.xor_assoc, Nat.xor_comm (b / 2)]
  · show _ ^^^ _ = _ ^^^ 33800 ^^^ (_ ^^^ 33800)
    rw [xor_cancel]
theorem crcBits_xor (n a b : Nat) : crcBits n (a ^^^ b) = crcBits n a ^^^ crcBits n b := by
  induction n with
  | zero => rfl
  | succ n ih => simp only [crcBits, ih, crcBit_xor]
theorem crcBits_add (n m a : Nat) : crcBits (n + m) a = crcBits n (crcBits m a) := by
  induction n with
  | zero => simp [crcBits]
  | succ n ih => rw [Nat.succ_add]; simp only [crcBits, ih]
theorem crcBit_even (a : Nat) : crcBit (2 * a) = a := by
  unfold crcBit
  rw [if_neg (by omega)]
  omega
theorem crcBits_pow (n a : Nat) : crcBits n (2 ^ n * a) = a := by
  induction n generalizing a with
  | zero => simp [crcBits]
  | succ n ih =>
    simp only [crcBits]
    rw [show 2 ^ (n + 1) * a = 2 ^ n * (2 * a) by rw [Nat.pow_succ, Nat.mul_assoc], ih, crcBit_even]
theorem crcBit_zero {a : Nat} (ha : a < 65536) (h : crcBit a = 0) : a = 0 := by
  unfold crcBit at h
  split at h
  · have h1 : a / 2 = 33800 := by
      have := congrArg (· ^^^ 33800) h
      simpa [Nat.xor_assoc] using this
    omega
  · omega
theorem crcBits_zero (n : Nat) : ∀ {a : Nat}, a < 65536 → crcBits n a = 0 → a = 0 := by
  induction n with
  | zero => intro a _ h; exact h
  | succ n ih => intro a ha h; exact ih ha (crcBit_zero (crcBits_lt ha n) h)
theorem xor_zero_iff (a b : Nat) : a ^^^ b = 0 ↔ a = b := by
  constructor
  · intro h
    have := congrArg (· ^^^ b) h
    simpa [Nat.xor_assoc] using this
  · rintro rfl; exact Nat.xor_self _
/-- the string seen as a number, the first byte lowest -/
def numL : List UInt8 → Nat
  | [] => 0
  | b :: l => b.toNat + 256 * numL l
theorem low_xor (b x : Nat) (h : b < 256) : b + 256 * x = b ^^^ (256 * x) := by
  apply Nat.eq_of_testBit_eq
  intro i
  rw [Nat.testBit_xor, show 256 = 2 ^ 8 from rfl, Nat.add_comm, Nat.testBit_two_pow_mul_add x h, Nat.testBit_two_pow_mul]
  by_cases hi : i < 8
  · rw [if_pos hi]
    simp [show ¬ 8 ≤ i by omega]
  · rw [if_neg hi]
    have : b.testBit i = false := Nat.testBit_lt_two_pow (Nat.lt_of_lt_of_le h (show 2 ^ 8 ≤ 2 ^ i from Nat.pow_le_pow_right (by decide) (by omega)))
    simp [this, show 8 ≤ i by omega]
theorem numL_cons (b : UInt8) (l : List UInt8) : numL (b :: l) = b.toNat ^^^ (256 * numL l) := low_xor _ _ b.toNat_lt
theorem foldl_num (l : List UInt8) : ∀ r, l.foldl crcByte r = crcBits (8 * l.length) (r ^^^ numL l) := by
  induction l with
  | nil => intro r; simp [numL, crcBits]
  | cons b l ih =>
    intro r
    rw [List.foldl_cons, ih, List.length_cons, show 8 * (l.length + 1) = 8 * l.length + 8 by omega, crcBits_add, numL_cons, ← Nat.xor_assoc, crcBits_xor 8, show 256 = 2 ^ 8 from rfl, crcBits_pow]
    rfl
theorem crcReg_num (l : List UInt8) : crcReg l = crcBits (8 * l.length) (65535 ^^^ numL l) := foldl_num l _
theorem numL_inj : ∀ (s t : List UInt8), s.length = t.length → numL s = numL t → s = t
  | [], [], _, _ => rfl
  | a :: s, b :: t, hl, hn => by
    simp only [numL] at hn
    have ha := a.toNat_lt
    have hb := b.toNat_lt
    have h1 : a.toNat = b.toNat := by omega
    have h2 : numL s = numL t := by omega
    rw [numL_inj s t (by simpa using hl) h2, UInt8.toNat_inj.1 h1]
/-- a string that differs only within sixteen bits in a row has another register, unless it is the same -/
theorem burst {s t : List UInt8} {bit p : Nat} (hl : t.length = s.length) (hp : p < 65536) (hb : bit ≤ 8 * s.length) (hn : numL t = numL s ^^^ (2 ^ bit * p)) : crcReg s = crcReg t ↔ s = t := by
  constructor
  · intro h
    have hx : crcReg s ^^^ crcReg t = 0 := (xor_zero_iff _ _).2 h
    rw [crcReg_num, crcReg_num, hl, ← crcBits_xor, hn] at hx
    rw [show 65535 ^^^ numL s ^^^ (65535 ^^^ (numL s ^^^ (2 ^ bit * p))) = 2 ^ bit * p by
      rw [← Nat.xor_assoc 65535, ← Nat.xor_assoc, Nat.xor_self, Nat.zero_xor]] at hx
    rw [show 8 * s.length = (8 * s.length - bit) + bit by omega, crcBits_add, crcBits_pow] at hx
    have h0 := crcBits_zero _ hp hx
    refine numL_inj s t hl.symm ?_
    rw [hn, h0, Nat.mul_zero, Nat.xor_zero]
  · rintro rfl; rfl
theorem crcL_inj {s t : List UInt8} : crcL s = crcL t ↔ crcReg s = crcReg t := by
  unfold crcL
  constructor
  · intro h
    have := congrArg (· ^^^ 65535) h
    simpa [Nat.xor_assoc] using this
  · intro h; rw [h]
/-- one byte of a string changed -/
theorem numL_set : ∀ (l : List UInt8) (j : Nat) (b c : UInt8), l[j]? = some b → numL (l.set j (b ^^^ c)) = numL l ^^^ (2 ^ (8 * j) * c.toNat)
  | [], j, b, c, h => by simp at h
  | a :: l, 0, b, c, h => by
    simp only [List.getElem?_cons_zero, Option.some.injEq] at h
    subst h
    rw [List.set_cons_zero, numL_cons, numL_cons, UInt8.toNat_xor]
    simp only [Nat.mul_zero, Nat.pow_zero, Nat.one_mul]
    rw [Nat.xor_assoc, Nat.xor_assoc, Nat.xor_comm c.toNat]
  | a :: l, j + 1, b, c, h => by
    simp only [List.getElem?_cons_succ] at h
    have hm : ∀ x y : Nat, 256 * (x ^^^ y) = (256 * x) ^^^ (256 * y) := fun x y => by
      have := Nat.shiftLeft_xor_distrib (a := x) (b := y) (i := 8)
      simpa [Nat.shiftLeft_eq, Nat.mul_comm] using this
    rw [List.set_cons_succ, numL_cons, numL_cons, numL_set l j b c h, hm, ← Nat.xor_assoc]
    congr 1
    rw [show 8 * (j + 1) = 8 * j + 8 by omega, Nat.pow_add]
    rw [show 2 ^ (8 * j) * 2 ^ 8 * c.toNat = 2 ^ 8 * (2 ^ (8 * j) * c.toNat) by rw [Nat.mul_comm (2 ^ (8 * j)), Nat.mul_assoc]]
/-- the residue -/
theorem split16 (n : Nat) : n % 256 ^^^ (256 * (n / 256)) = n := by
  rw [← low_xor _ _ (Nat.mod_lt _ (by decide))]
  omega
theorem residue (l : List UInt8) : crcL (l ++ [UInt8.ofNat (crcL l % 256), UInt8.ofNat (crcL l / 256)]) = 3911 := by
  have hc := crcL_lt l
  have h1 : (UInt8.ofNat (crcL l % 256)).toNat = crcL l % 256 := by rw [UInt8.toNat_ofNat']; omega
  have h2 : (UInt8.ofNat (crcL l / 256)).toNat = crcL l / 256 := by rw [UInt8.toNat_ofNat']; omega
  have h3 : crcReg (l ++ [UInt8.ofNat (crcL l % 256), UInt8.ofNat (crcL l / 256)]) = crcBits 16 65535 := by
    have e : crcReg l ^^^ crcL l = 65535 := by unfold crcL; rw [← Nat.xor_assoc, Nat.xor_self, Nat.zero_xor]
    unfold crcReg at e ⊢
    rw [List.foldl_append, foldl_num]
    simp only [List.length_cons, List.length_nil, Nat.zero_add, Nat.reduceAdd, Nat.reduceMul, numL, Nat.mul_zero, Nat.add_zero]
    rw [h1, h2, Nat.mod_add_div, e]
  unfold crcL at h3 ⊢
  rw [h3]
  decide +kernel
/-- the Crc of a bytewise exclusive or of three strings -/
def xor3 : List UInt8 → List UInt8 → List UInt8 → List UInt8
  | a :: x, b :: y, c :: z => (a ^^^ b ^^^ c) :: xor3 x y z
  | _, _, _ => []
theorem xor3_len : ∀ (n : Nat) (x y z : List UInt8), x.length = n → y.length = n → z.length = n → (xor3 x y z).length = n
  | 0, [], [], [], _, _, _ => rfl
  | n + 1, a :: x, b :: y, c :: z, hx, hy, hz => by
    simp only [xor3, List.length_cons]
    rw [xor3_len n x y z (by simpa using hx) (by simpa using hy) (by simpa using hz)]
theorem numL_xor3 : ∀ (n : Nat) (x y z : List UInt8), x.length = n → y.length = n → z.length = n → numL (xor3 x y z) = numL x ^^^ numL y ^^^ numL z
  | 0, [], [], [], _, _, _ => rfl
  | n + 1, a :: x, b :: y, c :: z, hx, hy, hz => by
    have hm : ∀ x y : Nat, 256 * (x ^^^ y) = (256 * x) ^^^ (256 * y) := fun x y => by
      have := Nat.shiftLeft_xor_distrib (a := x) (b := y) (i := 8)
      simpa [Nat.shiftLeft_eq, Nat.mul_comm] using this
    simp only [xor3, numL_cons]
    rw [numL_xor3 n x y z (by simpa using hx) (by simpa using hy) (by simpa using hz), hm, hm, UInt8.toNat_xor, UInt8.toNat_xor]
    apply Nat.eq_of_testBit_eq
    intro i
    simp only [Nat.testBit_xor]
    generalize a.toNat.testBit i = b1
    generalize b.toNat.testBit i = b2
    generalize c.toNat.testBit i = b3
    generalize (256 * numL x).testBit i = b4
    generalize (256 * numL y).testBit i = b5
    generalize (256 * numL z).testBit i = b6
    cases b1 <;> cases b2 <;> cases b3 <;> cases b4 <;> cases b5 <;> cases b6 <;> rfl
theorem crc_xor3 {n : Nat} {x y z : List UInt8} (hx : x.length = n) (hy : y.length = n) (hz : z.length = n) : crcL (xor3 x y z) = crcL x ^^^ crcL y ^^^ crcL z := by
  unfold crcL
  rw [crcReg_num, crcReg_num, crcReg_num, crcReg_num, xor3_len n x y z hx hy hz, hx, hy, hz, numL_xor3 n x y z hx hy hz]
  have e : 65535 ^^^ (numL x ^^^ numL y ^^^ numL z) = (65535 ^^^ numL x) ^^^ (65535 ^^^ numL y) ^^^ (65535 ^^^ numL z) := by
    apply Nat.eq_of_testBit_eq
    intro i
    simp only [Nat.testBit_xor]
    generalize (65535 : Nat).testBit i = b1
    generalize (numL x).testBit i = b2
    generalize (numL y).testBit i = b3
    generalize (numL z).testBit i = b4
    cases b1 <;> cases b2 <;> cases b3 <;> cases b4 <;> rfl
  rw [e, crcBits_xor, crcBits_xor]
  generalize crcBits (8 * n) (65535 ^^^ numL x) = u
  generalize crcBits (8 * n) (65535 ^^^ numL y) = v
  generalize crcBits (8 * n) (65535 ^^^ numL z) = q
  apply Nat.eq_of_testBit_eq
  intro i
  simp only [Nat.testBit_xor]
  generalize (65535 : Nat).testBit i = b1
  generalize u.testBit i = b2
  generalize v.testBit i = b3
  generalize q.testBit i = b4
  cases b1 <;> cases b2 <;> cases b3 <;> cases b4 <;> rfl
end Go.Proofs.Ytonhaoieeefglaa
