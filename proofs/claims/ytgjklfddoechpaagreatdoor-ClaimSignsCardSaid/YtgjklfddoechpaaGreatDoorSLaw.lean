/- Package sign: plain laws of signatures. -/
import Derived.Test.YtgjklfddoechpaaGreatDoorSSign
import Derived.Laws.StructEq
namespace Go.Proofs.YtgjklfddoechpaaGreatDoor
open Go.RowKit
theorem pub_lt (x : Nat) : pubN x < 2305843009213691579 := lt_p _
theorem pub_in (x : Nat) : InG ((pubN x : Nat) : Int) := by
  have h := four_in x
  have h1 := in_pos h
  have h2 := pub_lt x
  refine ⟨?_, by omega, ?_⟩
  · have h3 : 1 ≤ pubN x := h1
    omega
  · rw [Int.toNat_natCast]
    exact h
theorem pub_ne {x : Nat} (h1 : 1 ≤ x) (h2 : x < 1152921504606845789) : ((pubN x : Nat) : Int) ≠ 1 := by
  have h := four_ne (x := x) h1 h2
  have h3 : pubN x ≠ 1 := h
  omega
theorem sgE_lt (x : Nat) (c m : List UInt8) : sgE x c m < 1152921504606845789 := chalN_lt _ _ _ _
theorem sgS_lt (x : Nat) (c m : List UInt8) : sgS x c m < 1152921504606845789 := Nat.mod_lt _ (by decide)
/-- what a right signature stands for -/
theorem sg_elem (x : Nat) (c m : List UInt8) : elemN (pubN x : Nat) (sgE x c m : Nat) (sgS x c m : Nat) = 4 ^ nonceN x c m % gP := by
  unfold elemN
  rw [Int.toNat_natCast, Int.toNat_natCast, Int.toNat_natCast]
  exact element_is x (nonceN x c m) (sgE x c m) (Nat.le_of_lt (sgE_lt x c m))
theorem ver_sig {x : Nat} (h1 : 1 ≤ x) (h2 : x < 1152921504606845789) (c m c2 m2 : List UInt8) :
    VerOk (pubN x : Nat) (sgE x c m : Nat) (sgS x c m : Nat) c2 m2 ↔ chalN (4 ^ nonceN x c m % gP : Nat) (pubN x : Nat) c2 m2 = sgE x c m := by
  have hE := sgE_lt x c m
  have hS := sgS_lt x c m
  unfold VerOk
  rw [sg_elem]
  constructor
  · intro h
    have := h.2.2.2.2
    omega
  · intro h
    refine ⟨pub_ne h1 h2, pub_in x, ⟨by omega, by omega⟩, ⟨by omega, by omega⟩, by omega⟩
theorem ver_same {x : Nat} (h1 : 1 ≤ x) (h2 : x < 1152921504606845789) (c m : List UInt8) :
    VerOk (pubN x : Nat) (sgE x c m : Nat) (sgS x c m : Nat) c m := (ver_sig h1 h2 c m c m).2 rfl
/- known answers -/
theorem kat_key : keyN [97] = 358115012204568414 := by decide +kernel
theorem pubF (x : Nat) (h : x < 2 ^ 61) : pubN x = powF gP 61 4 x := (powF_eq gP 61 4 x h).symm
theorem kat_pub : pubN 358115012204568414 = 5322311199030329 := (pubF _ (by decide)).trans (by decide +kernel)
theorem kat_nonce : nonceN ((358115012204568414 : Nat) : Int) [99] [109] = 507858151651448328 := by decide +kernel
theorem kat_r : pubN 507858151651448328 = 121324261228073936 := (pubF _ (by decide)).trans (by decide +kernel)
theorem kat_e : chalN ((121324261228073936 : Nat) : Int) ((5322311199030329 : Nat) : Int) [99] [109] = 863586865880404946 := by decide +kernel
theorem kat_e2 : chalN ((121324261228073936 : Nat) : Int) ((5322311199030329 : Nat) : Int) [99] [110] = 268455930870209848 := by decide +kernel
theorem sgE_pub (x : Nat) (c m : List UInt8) : sgE x c m = chalN (pubN (nonceN x c m) : Nat) (pubN x : Nat) c m := rfl
theorem ver_sig' {x : Nat} (h1 : 1 ≤ x) (h2 : x < 1152921504606845789) (c m c2 m2 : List UInt8) (n : Nat) (hn : n = nonceN x c m) :
    VerOk (pubN x : Nat) (sgE x c m : Nat) (sgS x c m : Nat) c2 m2 ↔ chalN (pubN n : Nat) (pubN x : Nat) c2 m2 = sgE x c m := by
  rw [hn]
  exact ver_sig h1 h2 c m c2 m2
theorem kat_differ : ¬ VerOk (pubN (keyN [97]) : Nat) (sgE (keyN [97]) [99] [109] : Nat) (sgS (keyN [97]) [99] [109] : Nat) [99] [110] := by
  intro h
  have h2 := (ver_sig' (keyN_bd _).1 (keyN_bd _).2 _ _ _ _ _ rfl).1 h
  rw [sgE_pub, kat_key, kat_pub, kat_nonce, kat_r, kat_e, kat_e2] at h2
  revert h2
  decide
theorem kat_one : pubN 1 = 4 := by decide +kernel
theorem eqK (a b a' b' : Int) (w : World) : (Op.equalIn 10000 29 (.agg #[.int .i64 a, .int .i64 b]) (.agg #[.int .i64 a', .int .i64 b'])).run Tryz.prog w = .ok (decide (a = a' ∧ b = b')) w := by
  have u3 := Tryz.underlying3
  have a3 := Tryz.isAgg3
  have z3 := Tryz.sizeOf3
  have hS : Tryz.prog.underlying 29 = some (.struct (Tryz.prog.fieldsOf 29)) := by kernel_rfl
  have hp : Tryz.prog.stoodInHeld 29 = false := by kernel_rfl
  rw [show (10000 : Nat) = 9999 + 1 from rfl, run_equalIn_agg w 9999 29 _ _ hS hp]
  simp only [Program.fieldsOf, Tryz.underlying29]
  go_simp
  by_cases h1 : a = a' <;> by_cases h2 : b = b' <;> simp [h1, h2]
theorem eqS (a b a' b' : Int) (w : World) : (Op.equalIn 10000 23 (.agg #[.int .i64 a, .int .i64 b]) (.agg #[.int .i64 a', .int .i64 b'])).run Tryz.prog w = .ok (decide (a = a' ∧ b = b')) w := by
  have u3 := Tryz.underlying3
  have a3 := Tryz.isAgg3
  have z3 := Tryz.sizeOf3
  have hS : Tryz.prog.underlying 23 = some (.struct (Tryz.prog.fieldsOf 23)) := by kernel_rfl
  have hp : Tryz.prog.stoodInHeld 23 = false := by kernel_rfl
  rw [show (10000 : Nat) = 9999 + 1 from rfl, run_equalIn_agg w 9999 23 _ _ hS hp]
  simp only [Program.fieldsOf, Tryz.underlying23]
  go_simp
  by_cases h1 : a = a' <;> by_cases h2 : b = b' <;> simp [h1, h2]
end Go.Proofs.YtgjklfddoechpaaGreatDoor
