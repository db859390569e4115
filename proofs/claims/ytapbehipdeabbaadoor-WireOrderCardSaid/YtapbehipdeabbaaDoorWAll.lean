/- bournelaw02: write and all. -/
import Derived.Test.YtapbehipdeabbaaDoorWLight
namespace Go.Proofs.YtapbehipdeabbaaDoor
open Go.RowKit
theorem i64_and3 (n : Int) : bits BinOp.and IntKind.i64 n 3 = n % 4 := by
  show IntKind.i64.wrap ((BitVec.ofInt 64 n &&& BitVec.ofInt 64 3).toNat : Int) = _
  have h1 : (BitVec.ofInt 64 3).toNat = 2 ^ 2 - 1 := rfl
  rw [BitVec.toNat_and, h1, Nat.and_two_pow_sub_one_eq_mod, BitVec.toNat_ofInt]
  have h2 : ((n % (2 ^ 64 : Nat)).toNat % 2 ^ 2 : Nat) = (n % 4).toNat := by omega
  rw [h2]
  have h3 : ((n % 4).toNat : Int) = n % 4 := by omega
  rw [h3]
  exact IntWalk.i64_in _ (by omega)
theorem textC_len (s : ByteArray) (h : s.size ≤ 500) : (textC s).length ≤ 1002 := by
  have h5 := textL_len s.data.toList
  have h6 : s.data.toList.length = s.size := by simp
  unfold textC
  omega
theorem encV_len {x : VV} (h : LightV x) (ho : VOk x) : (encV x).length ≤ 50200 := by
  obtain ⟨h1, h2, h3, h4⟩ := h
  unfold encV
  split
  · have := intL_len ho.2.1; omega
  · split
    · have := textC_len x.s h1; omega
    · split
      · have h6 := joinPre_len intL 10 x.l (fun y hy => by have := intL_len (ho.2.2.2.2.1 y hy); omega)
        have h7 : (joinL intL x.l).length = (joinPre intL x.l).length + 1 := by rw [joinL_pre]; simp
        omega
      · have h6 := joinPre_len textC 1003 x.t (fun y hy => by have := textC_len y (h4 y hy); omega)
        have h7 : (joinL textC x.t).length = (joinPre textC x.t).length + 1 := by rw [joinL_pre]; simp
        have h8 : x.t.length * 1003 ≤ 50 * 1003 := Nat.mul_le_mul_right _ h3
        omega
theorem allL_len {xs : List VV} (h : ∀ x ∈ xs, LightV x) (ho : ∀ x ∈ xs, VOk x) : (allL xs).length ≤ xs.length * 50200 := by
  induction xs with
  | nil => simp [allL]
  | cons x xs ih =>
    have h1 := ih (fun y hy => h y (by simp [hy])) (fun y hy => ho y (by simp [hy]))
    have h2 := encV_len (h x (by simp)) (ho x (by simp))
    rw [allL_cons, List.length_append, List.length_cons, Nat.succ_mul]
    omega
set_option maxRecDepth 100000 in
set_option maxHeartbeats 4000000 in
theorem write_any (x : VV) (vl vt : Value) (w : World) (hvl : CArg (Value.int .i64) vl x.l w) (hvt : CArg Value.string vt x.t w) (ho : VOk x) (hL : LightV x) (hm : MLen w) :
    Calls Tryd.prog 47 #[.agg #[.int .i64 x.kind, .int .i64 x.n, .string x.s, vl, vt]] w fun e w' => e = .returned (.string ⟨(encV x).toArray⟩) ∧ Below w.heap.size w w' := by
  have hB0 : Below w.heap.size w (w.alloc (.cells #[.int .i64 x.kind, .int .i64 x.n, .string x.s, vl, vt] 28)) := (Below.refl _ _).alloc (Nat.le_refl _) _
  have HB0 := Lib.hid hB0
  have HVL := Lib.hid (hvl.below hB0 (Nat.le_refl _))
  have HVT := Lib.hid (hvt.below hB0 (Nat.le_refl _))
  have HM := Lib.hid (hm.up hB0)
  have HO := Lib.hid ho
  have HL := Lib.hid hL
  have hk := i64_and3 x.kind
  obtain ⟨r, hr⟩ : ∃ r, r = k4 x := ⟨_, rfl⟩
  have hk2 : bits BinOp.and IntKind.i64 x.kind 3 = r := by rw [hk, hr]; rfl
  have HR := Lib.hid hr
  have hrr : r = 0 ∨ r = 1 ∨ r = 2 ∨ r = 3 := by rw [hr]; exact k4_range x
  clear hB0 hvl hvt hm ho hL hk hr
  by_cases h0 : r = 0
  · have HE : Hid (encV x = intL x.n) := Lib.hid (by unfold encV; rw [← HR.out, if_pos h0])
    have t0 : (r == 0) = true := beq_iff_eq.2 h0
    clear h0 hrr
    rw [HE.out]
    go_enter Tryd.func47, Tryd.ntmps47
    go_wp2_with fail
    refine (int_any x.n _ HO.out.2.1).mono ?_
    rintro e w1 ⟨rfl, hb⟩
    have HB := Lib.hid (HB0.out.trans (hb.mono HB0.out.size))
    clear hb
    go_wp2_with fail
    go_ret
    exact ⟨rfl, HB.out⟩
  · have t0 : (r == 0) = false := beq_eq_false_iff_ne.2 h0
    by_cases h1 : r = 1
    · have HE : Hid (encV x = textC x.s) := Lib.hid (by unfold encV; rw [← HR.out, if_neg h0, if_pos h1])
      have t1 : (r == 1) = true := beq_iff_eq.2 h1
      clear h0 h1 hrr
      rw [HE.out]
      go_enter Tryd.func47, Tryd.ntmps47
      go_wp2_with fail
      refine (text_any x.s _ (by have := HL.out.1; omega) HM.out).mono ?_
      rintro e w1 ⟨rfl, hb⟩
      have HB := Lib.hid (HB0.out.trans (hb.mono HB0.out.size))
      clear hb
      go_wp2_with fail
      go_ret
      exact ⟨rfl, HB.out⟩
    · have t1 : (r == 1) = false := beq_eq_false_iff_ne.2 h1
      by_cases h2 : r = 2
      · have HE : Hid (encV x = joinL intL x.l) := Lib.hid (by unfold encV; rw [← HR.out, if_neg h0, if_neg h1, if_pos h2])
        have t2 : (r == 2) = true := beq_iff_eq.2 h2
        clear h0 h1 h2 hrr
        rw [HE.out]
        go_enter Tryd.func47, Tryd.ntmps47
        go_wp2_with fail
        refine (nums_any vl x.l _ HVL.out (by have := HL.out.2.1; omega) HO.out.2.2.2.2.1).mono ?_
        rintro e w1 ⟨rfl, hb⟩
        have HB := Lib.hid (HB0.out.trans (hb.mono HB0.out.size))
        clear hb
        go_wp2_with fail
        go_ret
        exact ⟨rfl, HB.out⟩
      · have HE : Hid (encV x = joinL textB x.t) := Lib.hid (by unfold encV; rw [← HR.out, if_neg h0, if_neg h1, if_neg h2]; rfl)
        have t2 : (r == 2) = false := beq_eq_false_iff_ne.2 h2
        clear h0 h1 h2 hrr
        rw [HE.out]
        go_enter Tryd.func47, Tryd.ntmps47
        go_wp2_with fail
        refine (texts_any vt x.t _ HVT.out (by have := HL.out.2.2.1; omega) (fun y hy => by have := HL.out.2.2.2 y hy; omega) HM.out).mono ?_
        rintro e w1 ⟨rfl, hb⟩
        have HB := Lib.hid (HB0.out.trans (hb.mono HB0.out.size))
        clear hb
        go_wp2_with fail
        go_ret
        exact ⟨rfl, HB.out⟩
theorem sizeV : (Tryd.prog.info? 28).map (·.size) = some 5 := by kernel_rfl
theorem VAt.range {w : World} {b o : Nat} {x : VV} (h : VAt w b o x) : ∃ vl vt, w.rangeAt b o [.int .i64 x.kind, .int .i64 x.n, .string x.s, vl, vt] ∧ CArg (Value.int .i64) vl x.l w ∧ CArg Value.string vt x.t w := by
  obtain ⟨vl, vt, h0, h1, h2, h3, h4, h5, h6⟩ := h
  refine ⟨vl, vt, fun j v hj => ?_, h5, h6⟩
  match j, hj with
  | 0, hj => simp at hj; subst hj; exact h0
  | 1, hj => simp at hj; subst hj; exact h1
  | 2, hj => simp at hj; subst hj; exact h2
  | 3, hj => simp at hj; subst hj; exact h3
  | 4, hj => simp at hj; subst hj; exact h4
theorem bytes_append (a b : List UInt8) : (⟨a.toArray⟩ : ByteArray) ++ ⟨b.toArray⟩ = ⟨(a ++ b).toArray⟩ := by
  apply ByteArray.ext
  apply Array.ext'
  simp
set_option maxRecDepth 100000 in
set_option maxHeartbeats 4000000 in
theorem all_any (v : Value) (xs : List VV) (w : World) (h : VArg v xs w) (hL : Light xs) (hm : MLen w) :
    Calls Tryd.prog 20 #[v] w fun e w' => e = .returned (.string ⟨(allL xs).toArray⟩) ∧ Below w.heap.size w w' := by
  obtain ⟨fs, hu, _⟩ := structV
  have hOk : ∀ x ∈ xs, VOk x := fun x hx => by
    obtain ⟨a, c, _, h⟩ := h
    obtain ⟨k, hk⟩ := List.mem_iff_getElem?.1 hx
    obtain ⟨_, _, _, _, _, ho⟩ := h k x hk
    exact ho
  have HOk := Lib.hid hOk
  have HV := Lib.hid h
  have HL := Lib.hid hL
  have HM := Lib.hid hm
  have hl20 := hL.1
  obtain ⟨a, c, rfl, h⟩ := h
  clear h hL hm hOk
  have HLn : Hid (∀ k, (allL (xs.take k)).length ≤ 1004000) := Lib.hid (fun k => by
    have h1 := allL_len (xs := xs.take k) (fun x hx => HL.out.2 x (List.mem_of_mem_take hx)) (fun x hx => HOk.out x (List.mem_of_mem_take hx))
    have h2 : (xs.take k).length * 50200 ≤ 20 * 50200 := Nat.mul_le_mul_right _ (Nat.le_trans (List.length_take_le' _ _) hl20)
    omega)
  go_enter Tryd.func20, Tryd.ntmps20
  go_wp2_with fail
  go_loopw [3, 4] (fun sv iv wr => ∃ k : Nat, k ≤ xs.length ∧ iv = .int .i64 k ∧ sv = .string ⟨(allL (xs.take k)).toArray⟩ ∧ Below w.heap.size w wr) (fun _ iv _ => xs.length - (intOf iv).toNat)
  case atStart => exact ⟨0, by omega, rfl, rfl, Below.refl _ _⟩
  case round =>
    obtain ⟨k, hk, rfl, rfl, hB⟩ := hrel
    have HB := Lib.hid hB
    clear hB
    by_cases hlt : k < xs.length
    · have H1 : Hid (xs[k]? = some xs[k]) := Lib.hid (List.getElem?_eq_getElem hlt)
      obtain ⟨a2, c2, he, hel⟩ := HV.out.below HB.out
      obtain ⟨b, o, ha, hb, hat, hok⟩ := hel k _ H1.out
      simp only [Value.slice.injEq] at he
      obtain ⟨rfl, _, rfl⟩ := he
      subst ha
      have hLx := HL.out.2 _ (List.mem_of_getElem? H1.out)
      obtain ⟨vl, vt, hrg, c5, c6⟩ := hat.range
      have HC5 := Lib.hid c5
      have HC6 := Lib.hid c6
      have HOx := Lib.hid hok
      have HLx := Lib.hid hLx
      have HRg := Lib.hid hrg
      have HS : Hid (allL (xs.take (k + 1)) = allL (xs.take k) ++ encV xs[k]) := Lib.hid (by
        rw [List.take_add_one, H1.out]
        unfold allL
        rw [List.flatMap_append]
        simp)
      have hle := encV_len hLx hok
      have hla := HLn.out k
      clear hel hat hok hLx hrg c5 c6
      generalize xs[k] = x at *
      go_wp2_with (refine wpList_load_mid rfl 28 _ rfl b (o + k * 5) rfl [.int .i64 x.kind, .int .i64 x.n, .string x.s, vl, vt] _ HRg.out hu rfl sizeV ?_)
      refine (write_any x vl vt _ HC5.out HC6.out HOx.out HLx.out (HM.out.up HB.out)).mono ?_
      rintro e w1 ⟨rfl, hb1⟩
      have HB1 := Lib.hid (HB.out.trans (hb1.mono HB.out.size))
      have HA := Lib.hid (bytes_append (allL (xs.take k)) (encV x))
      have hs1 : (⟨(allL (xs.take k)).toArray⟩ : ByteArray).size ≤ 1004000 := hla
      have hs2 : (⟨(encV x).toArray⟩ : ByteArray).size ≤ 50200 := hle
      clear hb1
      go_wp2_with fail
      go_roundw
      case rel => exact ⟨k + 1, by omega, by go_num, by rw [HA.out, ← HS.out], HB1.out⟩
      case measure => simp [intOf]; omega
    · obtain rfl : k = xs.length := by omega
      have ht : xs.take xs.length = xs := List.take_of_length_le (Nat.le_refl _)
      rw [ht]
      clear hlt hk ht
      go_wp2_with fail
      go_ret
      exact ⟨rfl, HB.out⟩
end Go.Proofs.YtapbehipdeabbaaDoor
