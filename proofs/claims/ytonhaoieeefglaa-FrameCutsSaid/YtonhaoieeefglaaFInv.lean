/- A slice of bytes of which single bits are inverted in place. -/
import Derived.Test.YtonhaoieeefglaaFRef
import Derived.Test.YtonhaoieeefglaaFOnly
import Derived.Test.YtonhaoieeefglaaCrcLaw
import Derived.StillTailTactics
namespace Go.Proofs.Ytonhaoieeefglaa
open Go.RowKit
/-- what flipped holds: a block whose first cells are the bytes t -/
structure FInv (w0 : World) (n : Nat) (t : List UInt8) (w : World) : Prop where
  blk : ∃ (cur : Array Value) (c : Nat), w.heap[w0.heap.size]? = some (.cells cur 5 (c, c + 1)) ∧ n ≤ c ∧ ∀ (j : Nat) (b : UInt8), t[j]? = some b → cur[j]? = some (.int .u8 (b.toNat : Int))
  len : t.length = n
  below : Below w0.heap.size w0 w
theorem FInv.cell {w0 w : World} {n : Nat} {t : List UInt8} (h : FInv w0 n t w) {j : Nat} {b : UInt8} (hb : t[j]? = some b) : w.cell? ⟨w0.heap.size, j, none⟩ = some (.int .u8 (b.toNat : Int)) := by
  obtain ⟨cur, c, hh, _, hc⟩ := h.blk
  rw [cell_of_row _ _ _ _ _ _ hh]
  exact hc j b hb
theorem FInv.free {w0 w : World} {n : Nat} {t : List UInt8} (h : FInv w0 n t w) {j : Nat} (hj : j < n) : w.frozen? ⟨w0.heap.size, j, none⟩ = false := by
  obtain ⟨cur, c, hh, hn, _⟩ := h.blk
  simp only [World.frozen?, hh]
  simp
  omega
theorem FInv.set {w0 w : World} {n : Nat} {t : List UInt8} (h : FInv w0 n t w) {j : Nat} (hj : j < n) (b : UInt8) : FInv w0 n (t.set j b) (w.setCell ⟨w0.heap.size, j, none⟩ (.int .u8 (b.toNat : Int))) := by
  obtain ⟨cur, c, hh, hn, hc⟩ := h.blk
  refine ⟨⟨cur.setIfInBounds j (.int .u8 (b.toNat : Int)), c, ?_, hn, ?_⟩, by rw [List.length_set]; exact h.len, h.below.setCell (Nat.le_refl _) _⟩
  · rw [setCell_eq_setRow _ _ _ _ _ _ _ hh]
    exact setRow_heap _ _ _ _ _ _ hh
  · intro i b' hb'
    rw [Array.getElem?_setIfInBounds]
    have hl := h.len
    have hjc : j < cur.size := by
      have h1 := hc j t[j] (List.getElem?_eq_getElem (by omega))
      exact (Array.getElem?_eq_some_iff.1 h1).1
    rw [List.getElem?_set] at hb'
    split at hb'
    · rename_i e
      subst e
      rw [if_pos rfl, if_pos hjc]
      rw [if_pos (by omega)] at hb'
      simp only [Option.some.injEq] at hb'
      rw [hb']
    · rename_i e
      rw [if_neg e]
      exact hc i b' hb'
theorem FInv.drew {w0 w : World} {n : Nat} {t : List UInt8} (h : FInv w0 n t w) : FInv w0 n t w.drew := ⟨h.blk, h.len, h.below.drew⟩
theorem conv_row {w0 w : World} {n : Nat} {t : List UInt8} (h : FInv w0 n t w) (C : Nat) : (convert 35 9 (.slice (some ⟨w0.heap.size, 0, none⟩) n C)).run Try.prog w = .ok (.string ⟨t.toArray⟩) w := by
  have hl := h.len
  subst hl
  refine run_convert_bytes_back w _ _ _ _ C t undBs undB undS fun j hj => ?_
  rw [Addr.add_mid, Nat.zero_add]
  exact h.cell (List.getElem?_eq_getElem hj)
theorem flip_byte (b : UInt8) (m : Nat) (hm : m < 8) : bits BinOp.xor IntKind.u8 (b.toNat : Int) (IntKind.u8.wrap (2 ^ m)) = (((b ^^^ UInt8.ofNat (2 ^ m)).toNat : Nat) : Int) := by
  have hb := b.toNat_lt
  have h2 : (2 : Nat) ^ m < 256 := Nat.lt_of_lt_of_le (Nat.pow_lt_pow_right (by decide) hm) (by decide)
  have e0 : ((2 : Int) ^ m) = ((2 ^ m : Nat) : Int) := (Int.natCast_pow 2 m).symm
  have e : IntKind.u8.wrap (2 ^ m) = ((2 ^ m : Nat) : Int) := by
    rw [e0]
    exact IntWalk.u8_in _ ⟨Int.natCast_nonneg _, by omega⟩
  rw [e, u8_xor_nat _ _ hb h2, UInt8.toNat_xor, UInt8.toNat_ofNat', Nat.mod_eq_of_lt h2]
theorem flip_num (bit k p x n : Nat) (h : x = n ^^^ (2 ^ bit * p)) : x ^^^ (2 ^ (8 * ((bit + k) / 8)) * (UInt8.ofNat (2 ^ ((bit + k) % 8))).toNat) = n ^^^ (2 ^ bit * (p ^^^ 2 ^ k)) := by
  have h2 : (2 : Nat) ^ ((bit + k) % 8) < 256 := Nat.lt_of_lt_of_le (Nat.pow_lt_pow_right (by decide) (Nat.mod_lt _ (by decide))) (by decide)
  have hm : ∀ x y : Nat, 2 ^ bit * (x ^^^ y) = (2 ^ bit * x) ^^^ (2 ^ bit * y) := fun x y => by
    have := Nat.shiftLeft_xor_distrib (a := x) (b := y) (i := bit)
    simpa [Nat.shiftLeft_eq, Nat.mul_comm] using this
  rw [UInt8.toNat_ofNat', Nat.mod_eq_of_lt h2, ← Nat.pow_add, Nat.div_add_mod, hm, h, Nat.xor_assoc, ← Nat.pow_add]
theorem segs_one : ∀ (e cur : List UInt8), ¬ (126 : UInt8) ∈ e → segs cur (e ++ [126]) = [cur ++ e]
  | [], cur, _ => by simp [segs]
  | c :: e, cur, h => by
    simp only [List.mem_cons, not_or] at h
    have hc : ¬ c = 126 := fun e => h.1 e.symm
    have ih := segs_one e (cur ++ [c]) h.2
    simp [segs, hc, ih]
theorem dec_one {b : List UInt8} (hl : b.length ≤ 1000) : decL (126 :: (escL b ++ [126])) = if bodyOk b then [b.take (b.length - 2)] else [] := by
  have h1 : strL (126 :: (escL b ++ [126])) = [escL b] := by
    simp only [strL, if_true]
    rw [segs_one _ [] (escL_no b)]
    rfl
  have h2 : ¬ 2048 < (escL b).length := by have := escL_len b; omega
  unfold decL
  rw [h1]
  simp only [List.filterMap_cons, List.filterMap_nil]
  rw [payOpt_some h2 (unesc_esc_all b)]
  cases bodyOk b <;> simp
theorem bodyOk_body (p : List UInt8) : bodyOk (bodyL p) = true := by
  have hl := crcL_lt p
  have hlen : (bodyL p).length = p.length + 2 := by simp [bodyL, crcB]
  rw [bodyOk_at hlen, decide_eq_true_iff]
  have e1 : (bodyL p).take p.length = p := by simp [bodyL]
  have e2 : (bodyL p)[p.length]? = some (UInt8.ofNat (crcL p % 256)) := by simp [bodyL, crcB]
  have e3 : (bodyL p)[p.length + 1]? = some (UInt8.ofNat (crcL p / 256)) := by simp [bodyL, crcB]
  rw [e1, e2, e3, Option.getD_some, Option.getD_some, UInt8.toNat_ofNat', UInt8.toNat_ofNat']
  omega
theorem ok_residue {b : List UInt8} (h : bodyOk b = true) : crcL b = 3911 := by
  rw [← body_of_ok h]
  exact residue _
theorem burst_ok {p t : List UInt8} {bit q : Nat} (hl : t.length = (bodyL p).length) (hq : q < 65536) (hb : bit ≤ 8 * (bodyL p).length) (hn : numL t = numL (bodyL p) ^^^ (2 ^ bit * q)) : bodyOk t = decide (q = 0) := by
  have hB := burst hl hq hb hn
  by_cases h0 : q = 0
  · subst h0
    have : t = bodyL p := numL_inj t _ hl (by rw [hn]; simp)
    rw [this, bodyOk_body]
    rfl
  · rw [decide_eq_false h0]
    cases hok : bodyOk t with
    | false => rfl
    | true =>
      exfalso
      have h1 := (ok_residue hok).trans (ok_residue (bodyOk_body p)).symm
      have h2 : bodyL p = t := hB.1 ((crcL_inj.1 h1).symm)
      rw [← h2] at hn
      have h3 : 2 ^ bit * q = 0 := by
        have := congrArg (fun x => numL (bodyL p) ^^^ x) hn
        simp only [Nat.xor_self, ← Nat.xor_assoc, Nat.zero_xor] at this
        exact this.symm
      rcases Nat.mul_eq_zero.1 h3 with h4 | h4
      · exact absurd h4 (Nat.pos_iff_ne_zero.1 (Nat.pow_pos (by decide)))
      · exact h0 h4
theorem xor_ne_zero {q k : Nat} (h : q < 2 ^ k) : q ^^^ 2 ^ k ≠ 0 := fun e => by
  have := (xor_zero_iff q (2 ^ k)).1 e
  omega
end Go.Proofs.Ytonhaoieeefglaa
