/- bourneref02: a reader: Open, fail, Int, Num, Left, Done. -/
import Derived.Test.YtgjklfddoechpaaGreatDoorWRefA
namespace Go.Proofs.YtgjklfddoechpaaGreatDoor
open Go.RowKit
/-- block g holds a reader of the reference that holds st -/
def QAt (g : Nat) (st : RSt) (w : World) : Prop :=
  ∃ (rest : ByteArray) (bad : Bool), w.heap[g]? = some (.cells #[.string rest, .bool bad] 125 (0, 0)) ∧ rest.size ≤ 1000000 ∧ (bad = true → rest = ⟨#[]⟩) ∧ st = if bad then none else some rest.data.toList
theorem QAt.grown {g : Nat} {st : RSt} {w w' : World} {row : Option Nat} (h : QAt g st w) (hg : w.grownBy w' row) (hne : some g ≠ row) : QAt g st w' := by
  obtain ⟨rest, bad, hb, h1, h2⟩ := h
  exact ⟨rest, bad, (hg.block g (blk_lt hb) hne).trans hb, h1, h2⟩
theorem QAt.below {g : Nat} {st : RSt} {w w' : World} {B : Nat} (h : QAt g st w) (hb : Below B w w') (hB : g < B) : QAt g st w' := by
  obtain ⟨rest, bad, hk, h1, h2⟩ := h
  exact ⟨rest, bad, blk_below hk hb hB, h1, h2⟩
theorem QAt.lt {g : Nat} {st : RSt} {w : World} (h : QAt g st w) : g < w.heap.size := by
  obtain ⟨_, _, hb, _⟩ := h
  exact blk_lt hb
theorem RdAt.lt {g : Nat} {st : RSt} {w : World} (h : RdAt g st w) : g < w.heap.size := by
  obtain ⟨_, _, hb, _⟩ := h
  exact blk_lt hb
theorem qInt_cases (c : UInt8) (r : List UInt8) (F : List UInt8 → List UInt8) (k : Nat) (neg : Bool) (hneg : neg = decide (c.toNat < 128)) (hF : ∀ l, F l = if neg then l.map (fun b => 255 - b) else l) (hk : k = if neg then 127 - c.toNat else c.toNat - 128) (n : Int)
    (hn : n = if neg then -(valR (F (r.take k)) : Int) - 1 else valR (F (r.take k))) :
    opInt (some (c :: r)) = if 8 < k ∨ r.length < k then (0, none) else if 9223372036854775807 < valR (F (r.take k)) then (0, none) else if intL n = (c :: r).take (1 + k) then (n, some ((c :: r).drop (1 + k))) else (0, none) := by
  have hl := leadP_cases c r F k neg hneg hF hk
  rw [← hn] at hl
  rw [opInt_lead]
  by_cases hA : 8 < k ∨ r.length < k
  · rw [if_pos hA] at hl ⊢
    rw [hl]
    rfl
  · rw [if_neg hA] at hl ⊢
    by_cases hB : 9223372036854775807 < valR (F (r.take k))
    · rw [if_pos hB] at hl ⊢
      have : leadP (c :: r) = (0, 0) := by rw [hl]; split <;> rfl
      rw [this]
      rfl
    · rw [if_neg hB] at hl ⊢
      have hi : I64 n := by
        unfold I64
        rw [hn]
        split <;> omega
      by_cases hC : intL n = (c :: r).take (1 + k)
      · rw [if_pos hC]
        have h1 := rdInt_intL hi ((c :: r).drop (1 + k))
        rw [hC, List.take_append_drop] at h1
        rw [← opInt_lead]
        unfold opInt
        simp only [h1]
      · rw [if_neg hC]
        by_cases hD : (F (r.take k)).head? = some 0
        · rw [if_pos hD] at hl
          rw [hl]
          rfl
        · exfalso
          rw [if_neg hD] at hl
          unfold leadP at hl
          cases hq : rdInt (c :: r) with
          | none => rw [hq] at hl; simp only [Prod.mk.injEq] at hl; omega
          | some p =>
            obtain ⟨n', r'⟩ := p
            rw [hq] at hl
            simp only [Prod.mk.injEq] at hl
            obtain ⟨h1, h2⟩ := intL_rdInt hq
            rw [hl.1] at h1
            have h3 : (c :: r).length = (intL n).length + r'.length := by rw [h1, List.length_append]
            have h4 : 1 + k = (intL n).length := by omega
            exact hC (by rw [h4, h1, List.take_left])
theorem grown_drawn (w : World) (n : Nat) (row : Option Nat) : w.grownBy (w.drewN n) row := ⟨rfl, rfl, rfl, Nat.le_refl _, fun _ _ _ => rfl⟩
theorem ret_int1 {k : IntKind} {a b : Int} (h : a = b) : Ending.returned (.int k a) = Ending.returned (.int k b) := by rw [h]
theorem int_eq {k : IntKind} {a b : Int} (h : a = b) : Value.int k a = Value.int k b := by rw [h]
set_option maxRecDepth 100000 in
set_option maxHeartbeats 1000000 in
theorem qopen_any (s : ByteArray) (w : World) (hs : s.size ≤ 1000000) :
    Calls Tryz.prog 44 #[.string s] w fun e w' => e = .returned (.pointer (some ⟨w.heap.size, 0, none⟩)) ∧ QAt w.heap.size (some s.data.toList) w' ∧ Below w.heap.size w w' := by
  go_enter Tryz.func44, Tryz.ntmps44
  go_wp2_with fail
  go_ret
  exact ⟨rfl, ⟨s, false, heap_alloc_new _ _, hs, (fun h => by cases h), rfl⟩, (Below.refl _ _).alloc (Nat.le_refl _) _⟩
set_option maxRecDepth 100000 in
set_option maxHeartbeats 1000000 in
theorem qfail_any (g : Nat) (st : RSt) (w : World) (h : QAt g st w) :
    Calls Tryz.prog 96 #[.pointer (some ⟨g, 0, none⟩)] w fun e w' => e = .returned (.tuple #[]) ∧ QAt g none w' ∧ w.grownBy w' (some g) := by
  obtain ⟨rest, bad, hb, hr, _, _⟩ := h
  have c0 : w.cell? ⟨g, 0, none⟩ = some (.string rest) := by rw [Lib.cell_of_heap hb]; rfl
  have f0 : w.frozen? ⟨g, 0, none⟩ = false := Lib.frozen_of_heap hb 0
  have c1 : w.cell? ⟨g, 1, none⟩ = some (.bool bad) := by rw [Lib.cell_of_heap hb]; rfl
  have f1 : w.frozen? ⟨g, 1, none⟩ = false := Lib.frozen_of_heap hb 1
  have HB := Lib.hid hb
  clear hb
  go_enter Tryz.func96, Tryz.ntmps96
  go_wp2_with fail
  go_end0
  exact ⟨rfl, ⟨⟨#[]⟩, true, two_set1 (two_set0 HB.out), by decide, fun _ => rfl, rfl⟩, grown_set (grown_set (grown_refl _ _) _) _⟩
set_option maxRecDepth 100000 in
set_option maxHeartbeats 1000000 in
theorem qDone_any (g : Nat) (st : RSt) (w : World) (h : QAt g st w) :
    Calls Tryz.prog 47 #[.pointer (some ⟨g, 0, none⟩)] w fun e w' => e = .returned (.bool (doneOf st)) ∧ w = w' := by
  obtain ⟨rest, bad, hb, hr, he, rfl⟩ := h
  have c0 : w.cell? ⟨g, 0, none⟩ = some (.string rest) := by rw [Lib.cell_of_heap hb]; rfl
  have c1 : w.cell? ⟨g, 1, none⟩ = some (.bool bad) := by rw [Lib.cell_of_heap hb]; rfl
  clear hb
  cases bad with
  | true =>
    go_enter Tryz.func47, Tryz.ntmps47
    go_wp2_with fail
    go_ret
    exact ⟨rfl, rfl⟩
  | false =>
    have e0 : rest.toList = rest.data.toList := ByteArray.toList_eq _
    cases hq : rest.data.toList with
    | nil =>
      have h1 : rest.toList = [] := by rw [e0, hq]
      have h2 : (rest.toList == []) = true := by rw [h1]; rfl
      have e : doneOf (some []) = true := rfl
      simp only [Bool.false_eq_true, if_false, e]
      clear e0 hq h1 e he
      go_enter Tryz.func47, Tryz.ntmps47
      go_wp2_with fail
      go_ret
      exact ⟨rfl, rfl⟩
    | cons x l =>
      have h1 : rest.toList ≠ [] := by rw [e0, hq]; simp
      have h2 : (rest.toList == []) = false := beq_eq_false_iff_ne.2 h1
      have e : doneOf (some (x :: l)) = false := rfl
      simp only [Bool.false_eq_true, if_false, e]
      clear e0 hq h1 e he
      go_enter Tryz.func47, Tryz.ntmps47
      go_wp2_with fail
      go_ret
      exact ⟨rfl, rfl⟩
set_option maxRecDepth 100000 in
set_option maxHeartbeats 1000000 in
/-- the reference's Int where nothing is left -/
theorem qInt_nil (g : Nat) (st : RSt) (w : World) (h : QAt g st w) (hn : st = none ∨ st = some []) :
    Calls Tryz.prog 45 #[.pointer (some ⟨g, 0, none⟩)] w fun e w' => e = .returned (.int .i64 0) ∧ QAt g none w' ∧ w.grownBy w' (some g) := by
  have H := Lib.hid h
  obtain ⟨rest, bad, hb, hr, he, rfl⟩ := h
  have hre : rest = ⟨#[]⟩ := by
    cases bad with
    | true => exact he rfl
    | false =>
      rcases hn with hn | hn
      · cases hn
      · simp only [Bool.false_eq_true, if_false, Option.some.injEq] at hn
        cases rest; simp at hn; rw [hn]
  subst hre
  have c0 : w.cell? ⟨g, 0, none⟩ = some (.string ⟨#[]⟩) := by rw [Lib.cell_of_heap hb]; rfl
  clear hb hn he
  go_enter Tryz.func45, Tryz.ntmps45
  go_wp2_with fail
  refine (qfail_any g _ _ H.out).mono ?_
  rintro e w1 ⟨rfl, h1, h2⟩
  have H1 := Lib.hid h1
  have H2 := Lib.hid h2
  clear h1 h2
  go_wp2_with fail
  go_ret
  exact ⟨rfl, H1.out, H2.out⟩

set_option maxRecDepth 100000 in
set_option maxHeartbeats 4000000 in
theorem qInt_neg (g : Nat) (s : ByteArray) (w : World) (h : QAt g (some s.data.toList) w) (h0 : 0 < s.size) (hs : s.size ≤ 1000000) (hc : s[0].toNat < 128)
    (hb : w.heap[g]? = some (.cells #[.string s, .bool false] 125 (0, 0))) :
    Calls Tryz.prog 45 #[.pointer (some ⟨g, 0, none⟩)] w fun e w' => e = .returned (.int .i64 (opInt (some s.data.toList)).1) ∧ QAt g (opInt (some s.data.toList)).2 w' ∧ w.grownBy w' (some g) := by
  obtain ⟨res, hres⟩ : ∃ res, res = opInt (some s.data.toList) := ⟨_, rfl⟩
  rw [← hres]
  obtain ⟨k, hk⟩ : ∃ k, k = 127 - s[0].toNat := ⟨_, rfl⟩
  have hcl := s[0].toNat_lt
  have HP0 := qInt_cases s[0] (s.data.toList.drop 1) flipL k true (by rw [decide_eq_true hc]) (fun l => by rfl) (by rw [hk]; rfl) _ rfl
  rw [← str_cons s h0, ← hres] at HP0
  have hrl : (s.data.toList.drop 1).length = s.size - 1 := by simp
  rw [hrl] at HP0
  have HP := Lib.hid HP0
  clear HP0 hres
  have hne := toList_ne s h0
  have hne2 : (s.toList == []) = false := beq_eq_false_iff_ne.2 hne
  have c0 : w.cell? ⟨g, 0, none⟩ = some (.string s) := by rw [Lib.cell_of_heap hb]; rfl
  have f0 : w.frozen? ⟨g, 0, none⟩ = false := Lib.frozen_of_heap hb 0
  have hg := blk_lt hb
  have HB := Lib.hid hb
  have H := Lib.hid h
  have hka : (k : Int) + (s[0].toNat : Int) ≤ 127 := by omega
  have hkb : 127 ≤ (k : Int) + (s[0].toNat : Int) := by omega
  clear hrl hne hk hb h
  by_cases h8 : 8 < k
  · have HE : Hid (res = (0, none)) := Lib.hid (by rw [HP.out, if_pos (Or.inl h8)])
    clear HP
    go_enter Tryz.func45, Tryz.ntmps45
    go_wp2_with fail
    refine (qfail_any g _ _ H.out).mono ?_
    rintro e w1 ⟨rfl, h1, h2⟩
    have H1 := Lib.hid h1
    have H2 := Lib.hid h2
    clear h1 h2
    go_wp2_with fail
    go_ret
    exact ⟨by rw [HE.out]; exact ret_int1 rfl, by rw [HE.out]; exact H1.out, H2.out⟩
  · by_cases h9 : s.size - 1 < k
    · have HE : Hid (res = (0, none)) := Lib.hid (by rw [HP.out, if_pos (Or.inr h9)])
      have hlt : decide ((s.size : Int) < 1 + (127 - (s[0].toNat : Int))) = true := by simp; omega
      clear HP
      go_enter Tryz.func45, Tryz.ntmps45
      go_wp2_with fail
      refine (qfail_any g _ _ H.out).mono ?_
      rintro e w1 ⟨rfl, h1, h2⟩
      have H1 := Lib.hid h1
      have H2 := Lib.hid h2
      clear h1 h2
      go_wp2_with fail
      go_ret
      exact ⟨by rw [HE.out]; exact ret_int1 rfl, by rw [HE.out]; exact H1.out, H2.out⟩
    · have HP2 := HP.out
      rw [if_neg (by omega)] at HP2
      have HP3 := Lib.hid HP2
      clear HP2 HP
      go_enter Tryz.func45, Tryz.ntmps45
      go_wp2_with fail
      go_loop [5, 6] (fun mv iv => ∃ i : Nat, 1 ≤ i ∧ i ≤ k + 1 ∧ iv = .int .i64 i ∧ mv = .int .u64 (valR (flipL ((s.data.toList.drop 1).take (i - 1))))) (fun _ iv => k + 1 - (intOf iv).toNat)
      case atStart => exact ⟨1, by omega, by omega, rfl, rfl⟩
      case round =>
        obtain ⟨i, hi1, hi2, rfl, rfl⟩ := hrel
        obtain ⟨m, hm⟩ : ∃ m, m = valR (flipL ((s.data.toList.drop 1).take (i - 1))) := ⟨_, rfl⟩
        rw [← hm]
        by_cases hle : i ≤ k
        · have hml : m < 72057594037927936 := by
            have h1 := valR_lt (flipL ((s.data.toList.drop 1).take (i - 1)))
            rw [← hm, flipL_length] at h1
            have h2 : ((s.data.toList.drop 1).take (i - 1)).length ≤ 7 := by
              have := List.length_take_le (i - 1) (s.data.toList.drop 1)
              omega
            exact Nat.lt_of_lt_of_le h1 (Nat.pow_le_pow_right (by decide) h2)
          have his : i < s.size := by omega
          obtain ⟨x, hx⟩ : ∃ x : UInt8, x = 255 - s[i] := ⟨_, rfl⟩
          have hxn : x.toNat = 255 - s[i].toNat := by rw [hx, flip_toNat]
          have HM : Hid (256 * m + x.toNat = valR (flipL ((s.data.toList.drop 1).take (i + 1 - 1)))) := by
            refine Lib.hid ?_
            have hg := drop_get s (i - 1) (by omega)
            have e : i + 1 - 1 = (i - 1) + 1 := by omega
            rw [e, List.take_add_one, hg, flipL_append]
            have e2 : flipL (some s[i - 1 + 1]).toList = [x] := by
              rw [hx]
              have e3 : i - 1 + 1 = i := by omega
              simp only [e3]
              rfl
            rw [e2, valR_snoc, ← hm]
          have hxl := s[i].toNat_lt
          have HXN := Lib.hid hxn
          clear hx hm hne2 hxn
          go_wp2_with fail
          go_round
          case rel => exact ⟨i + 1, by omega, by omega, by go_num, by rw [← HM.out]; exact int_eq (by have := HXN.out; omega)⟩
          case measure => simp [intOf]; omega
        · obtain rfl : i = k + 1 := by omega
          rw [Nat.add_sub_cancel] at hm
          have HP4 := HP3.out
          rw [← hm] at HP4
          have hml : m < 18446744073709551616 := by
            have h1 := valR_lt (flipL ((s.data.toList.drop 1).take k))
            rw [← hm, flipL_length] at h1
            have h2 : ((s.data.toList.drop 1).take k).length ≤ 8 := by
              have := List.length_take_le k (s.data.toList.drop 1)
              omega
            exact Nat.lt_of_lt_of_le h1 (Nat.pow_le_pow_right (by decide) h2)
          clear HP3 hm hne2 hle
          by_cases hbig : 9223372036854775807 < m
          · have HE : Hid (res = (0, none)) := Lib.hid (by rw [HP4, if_pos hbig])
            have hw : IntKind.i64.wrap (m : Int) = (m : Int) - 18446744073709551616 := by rw [IntKind.wrap_i64]; omega
            have hge : decide ((9223372036854775808 : Int) ≤ (m : Int)) = true := by simp; omega
            clear HP4
            go_wp2_with fail
            go_quiet (fail)
            go_wp2_with fail
            refine (qfail_any g _ _ (H.out.below (below_drewN (n := _) (Below.refl _ _)) hg)).mono ?_
            rintro e w1 ⟨rfl, h1, h2⟩
            have H1 := Lib.hid h1
            have H2 := Lib.hid (grown_trans (grown_drawn w _ (some g)) h2)
            clear h1 h2
            go_wp2_with fail
            go_ret
            exact ⟨by rw [HE.out]; exact ret_int1 rfl, by rw [HE.out]; exact H1.out, H2.out⟩
          · have HP5 : Hid (res = if intL (-(m : Int) - 1) = s.data.toList.take (1 + k) then (-(m : Int) - 1, some (s.data.toList.drop (1 + k))) else (0, none)) := Lib.hid (by rw [HP4, if_neg hbig]; rfl)
            have hge : decide ((9223372036854775808 : Int) ≤ (m : Int)) = false := by simp; omega
            clear HP4
            go_wp2_with fail
            have hi64 : I64 (-(m : Int) - 1) := by unfold I64; omega
            have e4 : (127 : Int) - (s[0].toNat : Int) = (k : Int) := by omega
            rw [e4]
            have hw1 : IntKind.i64.wrap (1 + (k : Int)) = 1 + (k : Int) := IntWalk.i64_in _ (by omega)
            have hw2 : (1 + (k : Int)).toNat = 1 + k := by omega
            have hw3 : 0 ≤ 1 + (k : Int) := by omega
            have hw4 : 1 + (k : Int) ≤ (s.size : Int) := by omega
            clear e4
            have HX := Lib.hid (take_toList s (1 + k))
            have HS : Hid (∀ w', Below w.drew.heap.size w.drew w' → w'.cell? ⟨g, 0, none⟩ = some (.string s)) := Lib.hid (fun w' hb => (hb.cell (p := ⟨g, 0, none⟩) hg).trans c0)
            have HY : Hid ((s.extract 0 (1 + k)).toList = s.data.toList.take (1 + k)) := Lib.hid (by rw [ByteArray.toList_eq, HX.out])
            by_cases hcmp : intL (-(m : Int) - 1) = s.data.toList.take (1 + k)
            · have HE : Hid (res = (-(m : Int) - 1, some (s.data.toList.drop (1 + k)))) := Lib.hid (by rw [HP5.out, if_pos hcmp])
              have q1 : (intL (-(m : Int) - 1) == (s.extract 0 (1 + k)).toList) = true := by rw [HY.out]; exact beq_iff_eq.2 hcmp
              have q2 : (intL (-(m : Int) - 1) != (s.extract 0 (1 + k)).toList) = false := by rw [bne, q1]; rfl
              clear hcmp
              go_region_held3 (fun w' => w'.cell? ⟨g, 0, none⟩ = some (.string s)) (first | exact HS.out _ (Below.refl _ _) | exact HS.out _ hb) ((go_at_call 50; refine (rint_any _ _ hi64).mono ?_; rintro e w' ⟨rfl, hb⟩))
              have hb1 := (show Below w.drew.heap.size w.drew _ by assumption)
              have HB1 : Hid (Below w.heap.size w _) := Lib.hid (show Below w.heap.size w _ from ⟨hb1.os, hb1.tape, hb1.output, hb1.size, hb1.block⟩)
              have HBk := Lib.hid (blk_below HB.out HB1.out hg)
              have c0' := HS.out _ hb1
              have f0' := Lib.frozen_of_heap HBk.out 0
              clear hb1
              go_wp2_with fail
              go_ret
              refine ⟨by rw [HE.out]; exact ret_int1 rfl, ?_, grown_set (grownBy_of_below HB1.out _) _⟩
              rw [HE.out]
              refine ⟨_, false, two_set0 HBk.out, by rw [ByteArray.size_extract]; omega, (fun h => by cases h), ?_⟩
              rw [extract_toList]
              rfl
            · have HE : Hid (res = (0, none)) := Lib.hid (by rw [HP5.out, if_neg hcmp])
              have q1 : (intL (-(m : Int) - 1) == (s.extract 0 (1 + k)).toList) = false := by rw [HY.out]; exact beq_eq_false_iff_ne.2 hcmp
              have q2 : (intL (-(m : Int) - 1) != (s.extract 0 (1 + k)).toList) = true := by rw [bne, q1]; rfl
              clear hcmp
              go_region_held3 (fun w' => w'.cell? ⟨g, 0, none⟩ = some (.string s)) (first | exact HS.out _ (Below.refl _ _) | exact HS.out _ hb) ((go_at_call 50; refine (rint_any _ _ hi64).mono ?_; rintro e w' ⟨rfl, hb⟩))
              have hb1 := (show Below w.drew.heap.size w.drew _ by assumption)
              have HB1 : Hid (Below w.heap.size w _) := Lib.hid (show Below w.heap.size w _ from ⟨hb1.os, hb1.tape, hb1.output, hb1.size, hb1.block⟩)
              have HBk := Lib.hid (blk_below HB.out HB1.out hg)
              have c0' := HS.out _ hb1
              have f0' := Lib.frozen_of_heap HBk.out 0
              clear hb1
              go_wp2_with fail
              refine (qfail_any g _ _ (H.out.below HB1.out hg)).mono ?_
              rintro e w1 ⟨rfl, h1, h2⟩
              have H1 := Lib.hid h1
              have H2 := Lib.hid (grown_trans (grownBy_of_below HB1.out (some g)) h2)
              clear h1 h2
              go_wp2_with fail
              go_ret
              exact ⟨by rw [HE.out]; exact ret_int1 rfl, by rw [HE.out]; exact H1.out, H2.out⟩

set_option maxRecDepth 100000 in
set_option maxHeartbeats 4000000 in
theorem qInt_pos (g : Nat) (s : ByteArray) (w : World) (h : QAt g (some s.data.toList) w) (h0 : 0 < s.size) (hs : s.size ≤ 1000000) (hc : 128 ≤ s[0].toNat)
    (hb : w.heap[g]? = some (.cells #[.string s, .bool false] 125 (0, 0))) :
    Calls Tryz.prog 45 #[.pointer (some ⟨g, 0, none⟩)] w fun e w' => e = .returned (.int .i64 (opInt (some s.data.toList)).1) ∧ QAt g (opInt (some s.data.toList)).2 w' ∧ w.grownBy w' (some g) := by
  obtain ⟨res, hres⟩ : ∃ res, res = opInt (some s.data.toList) := ⟨_, rfl⟩
  rw [← hres]
  obtain ⟨k, hk⟩ : ∃ k, k = s[0].toNat - 128 := ⟨_, rfl⟩
  have hcl := s[0].toNat_lt
  have HP0 := qInt_cases s[0] (s.data.toList.drop 1) sameL k false (by rw [decide_eq_false (by omega)]) (fun l => by rfl) (by rw [hk]; rfl) _ rfl
  rw [← str_cons s h0, ← hres] at HP0
  have hrl : (s.data.toList.drop 1).length = s.size - 1 := by simp
  rw [hrl] at HP0
  have HP := Lib.hid HP0
  clear HP0 hres
  have hne := toList_ne s h0
  have hne2 : (s.toList == []) = false := beq_eq_false_iff_ne.2 hne
  have c0 : w.cell? ⟨g, 0, none⟩ = some (.string s) := by rw [Lib.cell_of_heap hb]; rfl
  have f0 : w.frozen? ⟨g, 0, none⟩ = false := Lib.frozen_of_heap hb 0
  have hg := blk_lt hb
  have HB := Lib.hid hb
  have H := Lib.hid h
  have hka : (k : Int) + 128 ≤ (s[0].toNat : Int) := by omega
  have hkb : (s[0].toNat : Int) ≤ (k : Int) + 128 := by omega
  clear hrl hne hk hb h
  by_cases h8 : 8 < k
  · have HE : Hid (res = (0, none)) := Lib.hid (by rw [HP.out, if_pos (Or.inl h8)])
    clear HP
    go_enter Tryz.func45, Tryz.ntmps45
    go_wp2_with fail
    refine (qfail_any g _ _ H.out).mono ?_
    rintro e w1 ⟨rfl, h1, h2⟩
    have H1 := Lib.hid h1
    have H2 := Lib.hid h2
    clear h1 h2
    go_wp2_with fail
    go_ret
    exact ⟨by rw [HE.out]; exact ret_int1 rfl, by rw [HE.out]; exact H1.out, H2.out⟩
  · by_cases h9 : s.size - 1 < k
    · have HE : Hid (res = (0, none)) := Lib.hid (by rw [HP.out, if_pos (Or.inr h9)])
      have hlt : decide ((s.size : Int) < 1 + ((s[0].toNat : Int) - 128)) = true := by simp; omega
      clear HP
      go_enter Tryz.func45, Tryz.ntmps45
      go_wp2_with fail
      refine (qfail_any g _ _ H.out).mono ?_
      rintro e w1 ⟨rfl, h1, h2⟩
      have H1 := Lib.hid h1
      have H2 := Lib.hid h2
      clear h1 h2
      go_wp2_with fail
      go_ret
      exact ⟨by rw [HE.out]; exact ret_int1 rfl, by rw [HE.out]; exact H1.out, H2.out⟩
    · have HP2 := HP.out
      rw [if_neg (by omega)] at HP2
      have HP3 := Lib.hid HP2
      clear HP2 HP
      go_enter Tryz.func45, Tryz.ntmps45
      go_wp2_with fail
      go_loop [5, 6] (fun mv iv => ∃ i : Nat, 1 ≤ i ∧ i ≤ k + 1 ∧ iv = .int .i64 i ∧ mv = .int .u64 (valR (sameL ((s.data.toList.drop 1).take (i - 1))))) (fun _ iv => k + 1 - (intOf iv).toNat)
      case atStart => exact ⟨1, by omega, by omega, rfl, rfl⟩
      case round =>
        obtain ⟨i, hi1, hi2, rfl, rfl⟩ := hrel
        obtain ⟨m, hm⟩ : ∃ m, m = valR (sameL ((s.data.toList.drop 1).take (i - 1))) := ⟨_, rfl⟩
        rw [← hm]
        by_cases hle : i ≤ k
        · have hml : m < 72057594037927936 := by
            have h1 := valR_lt (sameL ((s.data.toList.drop 1).take (i - 1)))
            rw [← hm, sameL_length] at h1
            have h2 : ((s.data.toList.drop 1).take (i - 1)).length ≤ 7 := by
              have := List.length_take_le (i - 1) (s.data.toList.drop 1)
              omega
            exact Nat.lt_of_lt_of_le h1 (Nat.pow_le_pow_right (by decide) h2)
          have his : i < s.size := by omega
          obtain ⟨x, hx⟩ : ∃ x : UInt8, x = s[i] := ⟨_, rfl⟩
          have hxn : x.toNat = s[i].toNat := by rw [hx]
          have HM : Hid (256 * m + x.toNat = valR (sameL ((s.data.toList.drop 1).take (i + 1 - 1)))) := by
            refine Lib.hid ?_
            have hg := drop_get s (i - 1) (by omega)
            have e : i + 1 - 1 = (i - 1) + 1 := by omega
            rw [e, List.take_add_one, hg, sameL_append]
            have e2 : sameL (some s[i - 1 + 1]).toList = [x] := by
              rw [hx]
              have e3 : i - 1 + 1 = i := by omega
              simp only [e3]
              rfl
            rw [e2, valR_snoc, ← hm]
          have hxl := s[i].toNat_lt
          have HXN := Lib.hid hxn
          clear hx hm hne2 hxn
          go_wp2_with fail
          go_round
          case rel => exact ⟨i + 1, by omega, by omega, by go_num, by rw [← HM.out]; exact int_eq (by have := HXN.out; omega)⟩
          case measure => simp [intOf]; omega
        · obtain rfl : i = k + 1 := by omega
          rw [Nat.add_sub_cancel] at hm
          have HP4 := HP3.out
          rw [← hm] at HP4
          have hml : m < 18446744073709551616 := by
            have h1 := valR_lt (sameL ((s.data.toList.drop 1).take k))
            rw [← hm, sameL_length] at h1
            have h2 : ((s.data.toList.drop 1).take k).length ≤ 8 := by
              have := List.length_take_le k (s.data.toList.drop 1)
              omega
            exact Nat.lt_of_lt_of_le h1 (Nat.pow_le_pow_right (by decide) h2)
          clear HP3 hm hne2 hle
          by_cases hbig : 9223372036854775807 < m
          · have HE : Hid (res = (0, none)) := Lib.hid (by rw [HP4, if_pos hbig])
            have hw : IntKind.i64.wrap (m : Int) = (m : Int) - 18446744073709551616 := by rw [IntKind.wrap_i64]; omega
            have hge : decide ((9223372036854775808 : Int) ≤ (m : Int)) = true := by simp; omega
            clear HP4
            go_wp2_with fail
            go_quiet (fail)
            go_wp2_with fail
            refine (qfail_any g _ _ (H.out.below (below_drewN (n := _) (Below.refl _ _)) hg)).mono ?_
            rintro e w1 ⟨rfl, h1, h2⟩
            have H1 := Lib.hid h1
            have H2 := Lib.hid (grown_trans (grown_drawn w _ (some g)) h2)
            clear h1 h2
            go_wp2_with fail
            go_ret
            exact ⟨by rw [HE.out]; exact ret_int1 rfl, by rw [HE.out]; exact H1.out, H2.out⟩
          · have HP5 : Hid (res = if intL ((m : Int)) = s.data.toList.take (1 + k) then ((m : Int), some (s.data.toList.drop (1 + k))) else (0, none)) := Lib.hid (by rw [HP4, if_neg hbig]; rfl)
            have hge : decide ((9223372036854775808 : Int) ≤ (m : Int)) = false := by simp; omega
            clear HP4
            go_wp2_with fail
            have hi64 : I64 ((m : Int)) := by unfold I64; omega
            have e4 : (s[0].toNat : Int) - (128 : Int) = (k : Int) := by omega
            rw [e4]
            have hw1 : IntKind.i64.wrap (1 + (k : Int)) = 1 + (k : Int) := IntWalk.i64_in _ (by omega)
            have hw2 : (1 + (k : Int)).toNat = 1 + k := by omega
            have hw3 : 0 ≤ 1 + (k : Int) := by omega
            have hw4 : 1 + (k : Int) ≤ (s.size : Int) := by omega
            clear e4
            have HX := Lib.hid (take_toList s (1 + k))
            have HS : Hid (∀ w', Below w.drew.heap.size w.drew w' → w'.cell? ⟨g, 0, none⟩ = some (.string s)) := Lib.hid (fun w' hb => (hb.cell (p := ⟨g, 0, none⟩) hg).trans c0)
            have HY : Hid ((s.extract 0 (1 + k)).toList = s.data.toList.take (1 + k)) := Lib.hid (by rw [ByteArray.toList_eq, HX.out])
            by_cases hcmp : intL ((m : Int)) = s.data.toList.take (1 + k)
            · have HE : Hid (res = ((m : Int), some (s.data.toList.drop (1 + k)))) := Lib.hid (by rw [HP5.out, if_pos hcmp])
              have q1 : (intL ((m : Int)) == (s.extract 0 (1 + k)).toList) = true := by rw [HY.out]; exact beq_iff_eq.2 hcmp
              have q2 : (intL ((m : Int)) != (s.extract 0 (1 + k)).toList) = false := by rw [bne, q1]; rfl
              clear hcmp
              go_region_held3 (fun w' => w'.cell? ⟨g, 0, none⟩ = some (.string s)) (first | exact HS.out _ (Below.refl _ _) | exact HS.out _ hb) ((go_at_call 50; refine (rint_any _ _ hi64).mono ?_; rintro e w' ⟨rfl, hb⟩))
              have hb1 := (show Below w.drew.heap.size w.drew _ by assumption)
              have HB1 : Hid (Below w.heap.size w _) := Lib.hid (show Below w.heap.size w _ from ⟨hb1.os, hb1.tape, hb1.output, hb1.size, hb1.block⟩)
              have HBk := Lib.hid (blk_below HB.out HB1.out hg)
              have c0' := HS.out _ hb1
              have f0' := Lib.frozen_of_heap HBk.out 0
              clear hb1
              go_wp2_with fail
              go_ret
              refine ⟨by rw [HE.out]; exact ret_int1 rfl, ?_, grown_set (grownBy_of_below HB1.out _) _⟩
              rw [HE.out]
              refine ⟨_, false, two_set0 HBk.out, by rw [ByteArray.size_extract]; omega, (fun h => by cases h), ?_⟩
              rw [extract_toList]
              rfl
            · have HE : Hid (res = (0, none)) := Lib.hid (by rw [HP5.out, if_neg hcmp])
              have q1 : (intL ((m : Int)) == (s.extract 0 (1 + k)).toList) = false := by rw [HY.out]; exact beq_eq_false_iff_ne.2 hcmp
              have q2 : (intL ((m : Int)) != (s.extract 0 (1 + k)).toList) = true := by rw [bne, q1]; rfl
              clear hcmp
              go_region_held3 (fun w' => w'.cell? ⟨g, 0, none⟩ = some (.string s)) (first | exact HS.out _ (Below.refl _ _) | exact HS.out _ hb) ((go_at_call 50; refine (rint_any _ _ hi64).mono ?_; rintro e w' ⟨rfl, hb⟩))
              have hb1 := (show Below w.drew.heap.size w.drew _ by assumption)
              have HB1 : Hid (Below w.heap.size w _) := Lib.hid (show Below w.heap.size w _ from ⟨hb1.os, hb1.tape, hb1.output, hb1.size, hb1.block⟩)
              have HBk := Lib.hid (blk_below HB.out HB1.out hg)
              have c0' := HS.out _ hb1
              have f0' := Lib.frozen_of_heap HBk.out 0
              clear hb1
              go_wp2_with fail
              refine (qfail_any g _ _ (H.out.below HB1.out hg)).mono ?_
              rintro e w1 ⟨rfl, h1, h2⟩
              have H1 := Lib.hid h1
              have H2 := Lib.hid (grown_trans (grownBy_of_below HB1.out (some g)) h2)
              clear h1 h2
              go_wp2_with fail
              go_ret
              exact ⟨by rw [HE.out]; exact ret_int1 rfl, by rw [HE.out]; exact H1.out, H2.out⟩
theorem qInt_any (g : Nat) (st : RSt) (w : World) (h : QAt g st w) :
    Calls Tryz.prog 45 #[.pointer (some ⟨g, 0, none⟩)] w fun e w' => e = .returned (.int .i64 (opInt st).1) ∧ QAt g (opInt st).2 w' ∧ w.grownBy w' (some g) := by
  cases st with
  | none => exact qInt_nil g none w h (Or.inl rfl)
  | some l =>
    cases l with
    | nil => exact qInt_nil g (some []) w h (Or.inr rfl)
    | cons c l =>
      have h' := h
      obtain ⟨rest, bad, hb, hr, he, hst⟩ := h
      cases bad with
      | true => cases hst
      | false =>
        simp only [Bool.false_eq_true, if_false, Option.some.injEq] at hst
        have h0 : 0 < rest.size := by
          have := congrArg List.length hst
          simp at this
          omega
        rw [hst] at h' ⊢
        by_cases hc : rest[0].toNat < 128
        · exact qInt_neg g rest w h' h0 hr hc hb
        · exact qInt_pos g rest w h' h0 hr (by omega) hb
end Go.Proofs.YtgjklfddoechpaaGreatDoor
