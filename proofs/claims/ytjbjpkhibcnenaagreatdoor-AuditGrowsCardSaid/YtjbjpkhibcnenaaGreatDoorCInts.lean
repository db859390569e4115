/- claim.ints, promiseCore, Core. -/
import Derived.Outline
import Derived.OneCell
import Derived.Test.YtjbjpkhibcnenaaGreatDoorNDiv
import Derived.Test.YtjbjpkhibcnenaaGreatDoorSLaw
import Derived.Test.YtjbjpkhibcnenaaGreatDoorSKeyA
namespace Go.Proofs.YtjbjpkhibcnenaaGreatDoor
open Go.RowKit
theorem catL (a b : List UInt8) : (⟨a.toArray⟩ : ByteArray) ++ ⟨b.toArray⟩ = ⟨(a ++ b).toArray⟩ := by
  apply ByteArray.ext
  apply Array.ext'
  simp
theorem ints_len (xs : List Int) (h : ∀ x ∈ xs, I64 x) : (xs.flatMap intL).length ≤ 9 * xs.length := by
  induction xs with
  | nil => simp
  | cons x r ih =>
    have h1 := (intL_len (h x (by simp))).2
    have h2 := ih (fun y hy => h y (by simp [hy]))
    simp only [List.flatMap_cons, List.length_append, List.length_cons]
    omega
set_option maxRecDepth 100000 in
set_option maxHeartbeats 1000000 in
theorem ints_any (bk : Nat) (xs : List Int) (w : World) (hx : ∀ x ∈ xs, I64 x) (hcells : ∀ (j : Nat) x, xs[j]? = some x → w.cell? ⟨bk, 0 + j, none⟩ = some (.int .i64 x)) (hbk : bk < w.heap.size) (hN : xs.length ≤ 100) :
    Calls Tryz.prog 118 #[.slice (some ⟨bk, 0, none⟩) xs.length xs.length] w fun e w' => e = .returned (.string ⟨(xs.flatMap intL).toArray⟩) ∧ Below w.heap.size w w' := by
  have HX := Lib.hid hx
  have HC := Lib.hid hcells
  have HK := Lib.hid hbk
  clear hx hcells hbk
  go_enter Tryz.func118, Tryz.ntmps118
  go_wp2_with fail
  go_loopw [3, 8] (fun sv iv wr => ∃ k : Nat, k ≤ xs.length ∧ iv = .int .i64 k ∧ sv = .string ⟨((xs.take k).flatMap intL).toArray⟩ ∧ Below w.heap.size w wr) (fun _ iv _ => xs.length - (intOf iv).toNat)
  case atStart => exact ⟨0, by omega, rfl, rfl, Below.refl _ _⟩
  case round =>
    obtain ⟨k, hk, rfl, rfl, hb⟩ := hrel
    have HB := Lib.hid hb
    clear hb
    by_cases hlt : k < xs.length
    · have H1 : Hid (xs[k]? = some xs[k]) := Lib.hid (List.getElem?_eq_getElem hlt)
      have hc : wr.cell? ⟨bk, k, none⟩ = some (.int .i64 xs[k]) := by
        have h := (HB.out.cell (p := ⟨bk, 0 + k, none⟩) HK.out).trans (HC.out k _ H1.out)
        rw [Nat.zero_add] at h
        exact h
      have HI : Hid (I64 xs[k]) := Lib.hid (HX.out _ (List.getElem_mem hlt))
      obtain ⟨A, hA⟩ : ∃ A : ByteArray, A = ⟨((xs.take k).flatMap intL).toArray⟩ := ⟨_, rfl⟩
      obtain ⟨B, hB⟩ : ∃ B : ByteArray, B = ⟨(intL xs[k]).toArray⟩ := ⟨_, rfl⟩
      have hAs : A.size ≤ 900 := by
        have h := ints_len (xs.take k) (fun x hx => HX.out x (List.mem_of_mem_take hx))
        have h2 : A.data.toList.length ≤ 900 := by rw [hA]; show ((xs.take k).flatMap intL).length ≤ 900; rw [List.length_take] at h; omega
        exact h2
      have hBs : B.size ≤ 9 := by
        have h := (intL_len HI.out).2
        have h2 : B.data.toList.length ≤ 9 := by rw [hB]; exact h
        exact h2
      have HAB : Hid (A ++ B = ⟨((xs.take (k + 1)).flatMap intL).toArray⟩) := Lib.hid (by
        have e : (xs.take (k + 1)).flatMap intL = (xs.take k).flatMap intL ++ intL xs[k] := by
          rw [List.take_add_one, H1.out, List.flatMap_append, Option.toList_some, List.flatMap_singleton]
        rw [e, hA, hB, catL])
      have HBe := Lib.hid hB
      rw [← hA]
      have hn : ¬ 9223372036854775807 < A.size + B.size := by omega
      clear hA hB
      generalize xs[k] = x at *
      go_wp2_with fail
      refine (int_any x _ HI.out).mono ?_
      rintro e w2 ⟨rfl, hb⟩
      rw [← HBe.out]
      have HB2 := Lib.hid (HB.out.trans (hb.mono HB.out.size))
      clear hb
      go_wp2_with fail
      go_roundw
      case rel => exact ⟨k + 1, by omega, by go_num, by rw [HAB.out], HB2.out⟩
      case measure => simp [intOf]; omega
    · obtain rfl : k = xs.length := by omega
      have HE : Hid ((⟨((xs.take xs.length).flatMap intL).toArray⟩ : ByteArray) = ⟨(xs.flatMap intL).toArray⟩) := Lib.hid (by rw [List.take_length])
      go_wp2_with fail
      go_ret
      exact ⟨by rw [← HE.out]; rfl, HB.out⟩
theorem ints_row (bk : Nat) (xs : List Int) (w : World) (hx : ∀ x ∈ xs, I64 x) {t : TypeId} (hr : w.heap[bk]? = some (.cells (xs.map (Value.int .i64)).toArray t)) (hN : xs.length ≤ 100) :
    Calls Tryz.prog 118 #[.slice (some ⟨bk, 0, none⟩) xs.length xs.length] w fun e w' => e = .returned (.string ⟨(xs.flatMap intL).toArray⟩) ∧ Below w.heap.size w w' :=
  ints_any bk xs w hx (fun j x hj => by
    rw [Nat.zero_add]
    have h := cell_of_row _ _ j _ _ _ hr
    rw [← Array.getElem?_toList] at h
    have h2 : (xs.map (Value.int .i64))[j]? = some (.int .i64 x) := by rw [List.getElem?_map, hj]; rfl
    exact h.trans h2) (blk_lt hr) hN
end Go.Proofs.YtjbjpkhibcnenaaGreatDoor

