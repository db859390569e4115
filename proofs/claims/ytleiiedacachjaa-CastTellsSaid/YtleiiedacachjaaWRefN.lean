/- bourneref02: Nums, Texts. -/
import Derived.Test.YtleiiedacachjaaWRefA
namespace Go.Proofs.Ytleiiedacachjaa
open Go.RowKit
theorem bytes_append (a b : List UInt8) : (⟨a.toArray⟩ : ByteArray) ++ ⟨b.toArray⟩ = ⟨(a ++ b).toArray⟩ := by
  apply ByteArray.ext
  apply Array.ext'
  simp
set_option maxRecDepth 100000 in
set_option maxHeartbeats 2000000 in
theorem rNums_any (v : Value) (xs : List Int) (w : World) (h : CArg (Value.int .i64) v xs w) (hl : xs.length ≤ 1000) (hx : ∀ x ∈ xs, I64 x) :
    Calls Try.prog 38 #[v] w fun e w' => e = .returned (.string ⟨(joinL intL xs).toArray⟩) ∧ Below w.heap.size w w' := by
  obtain ⟨a, c, rfl, h⟩ := h
  have HC := Lib.hid h
  have HX := Lib.hid hx
  clear h hx
  have HLen : Hid (∀ k, (joinPre intL (xs.take k)).length ≤ 10000) := by
    refine Lib.hid fun k => ?_
    have h1 := joinPre_len intL 10 (xs.take k) (fun x hx => ?_)
    · have h2 : (xs.take k).length ≤ 1000 := Nat.le_trans (List.length_take_le' _ _) hl
      exact Nat.le_trans h1 (Nat.mul_le_mul_right _ h2)
    · have h4 := HX.out x (List.mem_of_mem_take hx)
      exact Nat.lt_succ_of_le (intL_len h4).2
  go_enter Try.func38, Try.ntmps38
  go_wp2_with fail
  go_loopw [3, 4] (fun sv iv wr => ∃ k : Nat, k ≤ xs.length ∧ iv = .int .i64 k ∧ sv = .string ⟨(joinPre intL (xs.take k)).toArray⟩ ∧ Below w.heap.size w wr) (fun _ iv _ => xs.length - (intOf iv).toNat)
  case atStart => exact ⟨0, by omega, rfl, rfl, Below.refl _ _⟩
  case round =>
    obtain ⟨k, hk, rfl, rfl, hB⟩ := hrel
    have HB := Lib.hid hB
    clear hB
    by_cases hlt : k < xs.length
    · have H1 : Hid (xs[k]? = some xs[k]) := Lib.hid (List.getElem?_eq_getElem hlt)
      have HXI := Lib.hid (HX.out xs[k] (List.getElem_mem hlt))
      obtain ⟨p, rfl, h2, h3⟩ := HC.out k _ H1.out
      have hc := (HB.out.cell h2).trans h3
      have HS := Lib.hid (joinPre_snoc intL xs k _ H1.out)
      have hla := HLen.out k
      have hlb := HLen.out (k + 1)
      clear h2 h3
      generalize xs[k] = x at *
      rw [HS.out, List.length_append, List.length_cons] at hlb
      have hs1 : (⟨(joinPre intL (xs.take k)).toArray⟩ : ByteArray).size ≤ 10000 := hla
      have hs2 : (⟨(intL x).toArray⟩ : ByteArray).size ≤ 10000 := by show (intL x).length ≤ _; omega
      have HA := Lib.hid (bytes_append (joinPre intL (xs.take k)) [1])
      have HA2 := Lib.hid (bytes_append (joinPre intL (xs.take k) ++ [1]) (intL x))
      have HA3 : Hid ((joinPre intL (xs.take k) ++ [1]) ++ intL x = joinPre intL (xs.take (k + 1))) := Lib.hid (by rw [HS.out]; simp)
      have hs3 : (⟨(joinPre intL (xs.take k)).toArray⟩ ++ ⟨#[1]⟩ : ByteArray).size ≤ 10001 := by
        rw [ByteArray.size_append, show (ByteArray.mk #[1]).size = 1 from rfl]
        omega
      go_wp2_with fail
      refine (rint_any x _ HXI.out).mono ?_
      rintro e w1 ⟨rfl, hb⟩
      have HB1 := Lib.hid (HB.out.trans (hb.mono HB.out.size))
      clear hb
      go_wp2_with fail
      go_roundw
      case rel => exact ⟨k + 1, by omega, by go_num, by rw [show (⟨(joinPre intL (xs.take k)).toArray⟩ ++ ⟨#[1]⟩ : ByteArray) = ⟨(joinPre intL (xs.take k) ++ [1]).toArray⟩ from HA.out, HA2.out, HA3.out], HB1.out⟩
      case measure => simp [intOf]; omega
    · obtain rfl : k = xs.length := by omega
      have ht : xs.take xs.length = xs := List.take_of_length_le (Nat.le_refl _)
      have hla := HLen.out xs.length
      rw [ht] at hla ⊢
      have hs1 : (⟨(joinPre intL xs).toArray⟩ : ByteArray).size ≤ 10000 := hla
      have HA := Lib.hid (bytes_append (joinPre intL xs) [0])
      clear hlt hk ht
      go_wp2_with fail
      go_ret
      exact ⟨congrArg (fun x => Ending.returned (Value.string x)) HA.out, HB.out⟩

end Go.Proofs.Ytleiiedacachjaa
