/- Texts merged: TQD TQO -/
import Derived.Test.YtjbjpkhibcnenaaGreatDoorTQC
import Derived.Test.YtjbjpkhibcnenaaGreatDoorTQU
import Derived.Test.YtjbjpkhibcnenaaGreatDoorAJudgeB
import Derived.Test.YtjbjpkhibcnenaaGreatDoorAByHour
/- The reference of package audit: Counts, Vow, Net. -/
namespace Go.Proofs.YtjbjpkhibcnenaaGreatDoor
set_option maxRecDepth 100000
set_option maxHeartbeats 8000000
open Go.RowKit
theorem rcounts (ps : List Int) (ap : Option Addr) (cp : Nat) (c : CV) (w : World) (hP : LArg RInt 1 (.slice ap ps.length cp) ps w) (hl : ps.length = 3) (hO : COk c) (hpv : c.prev.size ≤ 900) : Calls Tryz.prog 35 #[.slice ap 3 cp, .agg #[c.office, c.hour, c.inn, c.out, c.store, c.prev, c.e, c.s]] w (RetB (kB ps c) w) := by
 by_cases h0 : 0 ≤ c.office ∧ c.office < 3
 ·
  obtain ⟨j, ho⟩ : ∃ j : Nat, c.office = (j : Int) := ⟨c.office.toNat, by omega⟩; have hj : j < 3 := by omega
  have HO : Hid (officeB c.office = true) := hD (officeB_t h0); obtain ⟨x, hx⟩ : ∃ x, ps[j]? = some x := ⟨_, List.getElem?_eq_getElem (by omega)⟩; have HXP : Hid ((ps[c.office.toNat]?).getD 0 = x) := hD (by rw [ho, Int.toNat_natCast, hx]; rfl); obtain ⟨b, o, cs, rfl, hbr, -, hrg, rfl, hxI⟩ := hP.at hx; have HPM : Hid (w.cell? ⟨b, o + j, none⟩ = some (.int .i64 x)) := hD (by have := hrg 0 _ rfl; rw [Nat.mul_one, Nat.add_zero] at this; exact this); have q1 : decide ((j : Int) < 0) = false := decide_eq_false (by omega); have q2 : decide ((3 : Int) ≤ (j : Int)) = false := decide_eq_false (by omega); have h00 : (j : Int) < 3 := by omega
  rw [ho]; have HOO := hD ho; clear hP hrg hx h0 hl ho; by_cases hh1 : c.hour < 0
  ·
   have q3 : decide (c.hour < 0) = true := decide_eq_true hh1; have HT : Hid (kB ps c = false) := hD (by unfold kB; rw [decide_eq_false (show ¬ 0 ≤ c.hour by omega)]; simp); have HR := hD ((RowsS.nil w).alloc (.cells #[(j : Int), c.hour, c.inn, c.out, c.store, c.prev, c.e, c.s] 63)); clear hh1; go_enter Tryz.func35, Tryz.ntmps35; go_upto_region 1 with fail; generalize w.alloc (.cells #[(j : Int), c.hour, c.inn, c.out, c.store, c.prev, c.e, c.s] 63) = wa at *; have c0 := HR.out.cell 0 0 rfl rfl; have c1 := HR.out.cell 0 1 rfl rfl; go_wp2_with fail; go_ret; exact retB_mk HT.out HR.out.below
  ·
   have q3 : decide (c.hour < 0) = false := decide_eq_false hh1; by_cases hh2 : (16777216 : Int) < c.hour
   ·
    have q4 : decide ((16777216 : Int) < c.hour) = true := decide_eq_true hh2; have HT : Hid (kB ps c = false) := hD (by unfold kB; rw [decide_eq_false (show ¬ c.hour ≤ 16777216 by omega)]; simp); have HR := hD ((RowsS.nil w).alloc (.cells #[(j : Int), c.hour, c.inn, c.out, c.store, c.prev, c.e, c.s] 63)); clear hh1 hh2; go_enter Tryz.func35, Tryz.ntmps35; go_upto_region 1 with fail; generalize w.alloc (.cells #[(j : Int), c.hour, c.inn, c.out, c.store, c.prev, c.e, c.s] 63) = wa at *; have c0 := HR.out.cell 0 0 rfl rfl; have c1 := HR.out.cell 0 1 rfl rfl; go_wp2_with fail; go_ret; exact retB_mk HT.out HR.out.below
   ·
    have q4 : decide ((16777216 : Int) < c.hour) = false := decide_eq_false hh2; have hh3 : 0 ≤ c.hour := by omega
    have hh4 : c.hour ≤ 16777216 := by omega
    clear hh1 hh2; have HR := hD ((RowsS.nil w).alloc (.cells #[(j : Int), c.hour, c.inn, c.out, c.store, c.prev, c.e, c.s] 63)); go_enter Tryz.func35, Tryz.ntmps35; go_upto_region 1 with fail; generalize w.alloc (.cells #[(j : Int), c.hour, c.inn, c.out, c.store, c.prev, c.e, c.s] 63) = wa at *; have c0 := HR.out.cell 0 0 rfl rfl; have c1 := HR.out.cell 0 1 rfl rfl; go_upto_region 3 with fail; clear c0; clear c1; refine wrd (S := RowsS w _) (HR.out.drew) (fun yH => ?_); refine tn 0 ?_; refine tn 1 ?_ (hx := cx fun _ h => h.cell 0 2 rfl rfl)
    cases hwa : withinB c.inn with
    | true =>
     have HWa : Hid (∀ w0, Calls Tryz.prog 70 #[c.inn] w0 fun e w' => e = .returned (.bool true) ∧ Below w0.heap.size w0 w') := hD (fun w0 => by have h := fits_any c.inn w0; rw [hwa] at h; exact h); refine rd1 2 (fun K hK => ?_); go_simp; refine (HWa.out _).mono ?_; rintro e w' ⟨rfl, hb⟩; refine hK.out _ _ (yH.step hb) (fun yH => ?_); clear hK K; refine tn 3 ?_; refine tn 4 ?_; refine tn 5 ?_ (hx := cx fun _ h => h.cell 0 3 rfl rfl)
     cases hwb : withinB c.out with
     | true =>
      have HWb : Hid (∀ w0, Calls Tryz.prog 70 #[c.out] w0 fun e w' => e = .returned (.bool true) ∧ Below w0.heap.size w0 w') := hD (fun w0 => by have h := fits_any c.out w0; rw [hwb] at h; exact h); refine rd1 6 (fun K hK => ?_); go_simp; refine (HWb.out _).mono ?_; rintro e w' ⟨rfl, hb⟩; refine hK.out _ _ (yH.step hb) (fun yH => ?_); clear hK K; refine tn 7 ?_; refine tn 8 ?_; refine tn 9 ?_; refine tn 10 ?_ (hx := cx fun _ h => h.cell 0 4 rfl rfl)
      cases hwc : withinB c.store with
      | true =>
       have HWc : Hid (∀ w0, Calls Tryz.prog 70 #[c.store] w0 fun e w' => e = .returned (.bool true) ∧ Below w0.heap.size w0 w') := hD (fun w0 => by have h := fits_any c.store w0; rw [hwc] at h; exact h); refine rd1 11 (fun K hK => ?_); go_simp; refine (HWc.out _).mono ?_; rintro e w' ⟨rfl, hb⟩; refine hK.out _ _ (yH.step hb) (fun yH => ?_); clear hK K; refine tn 12 ?_; refine tn 13 ?_; refine tn 14 ?_; refine tn 15 ?_; refine tn 16 ?_ (hx := cx fun _ h => h.cell 0 0 rfl rfl); refine tn 17 ?_; refine tn 18 ?_ (hx := fun wz hSw => by have e4 := (hSw.below.cell hbr).trans HPM.out; go_simp; try with_reducible rfl); refine tn 19 ?_ (hx := ldw 0 undCm infoCm); by_cases h7 : VouchedC x c
       ·
        have HV : Hid (decide (VouchedC x c) = true) := hD (decide_eq_true h7); have HVe : Hid (∀ w0, Calls Tryz.prog 71 #[.int .i64 x, .agg #[(j : Int), c.hour, c.inn, c.out, c.store, c.prev, c.e, c.s]] w0 fun e w' => e = .returned (.bool true) ∧ Below w0.heap.size w0 w') := hD (fun w0 => by have h := rverifyC_any x c w0 hxI hO hpv; rw [HV.out] at h; rw [HOO.out] at h; exact h); clear h7; refine rd1 20 (fun K hK => ?_); go_simp; refine (HVe.out _).mono ?_; rintro e w' ⟨rfl, hb⟩; refine hK.out _ _ (yH.step hb) (fun yH => ?_); clear hK K; refine tn 21 ?_; refine tn 22 ?_; refine rdn ?_; have HT : Hid (kB ps c = true) := hD (by unfold kB; rw [HO.out, HXP.out]; (try rw [HV.out]); simp [*]); go_wp2_with fail; go_ret; exact retB_mk HT.out yH.below
       ·
        have HV : Hid (decide (VouchedC x c) = false) := hD (decide_eq_false h7); have HVe : Hid (∀ w0, Calls Tryz.prog 71 #[.int .i64 x, .agg #[(j : Int), c.hour, c.inn, c.out, c.store, c.prev, c.e, c.s]] w0 fun e w' => e = .returned (.bool false) ∧ Below w0.heap.size w0 w') := hD (fun w0 => by have h := rverifyC_any x c w0 hxI hO hpv; rw [HV.out] at h; rw [HOO.out] at h; exact h); clear h7; refine rd1 20 (fun K hK => ?_); go_simp; refine (HVe.out _).mono ?_; rintro e w' ⟨rfl, hb⟩; refine hK.out _ _ (yH.step hb) (fun yH => ?_); clear hK K; refine tn 21 ?_; refine tn 22 ?_; refine rdn ?_; have HT : Hid (kB ps c = false) := hD (by unfold kB; rw [HO.out, HXP.out]; (try rw [HV.out]); simp [*]); go_wp2_with fail; go_ret; exact retB_mk HT.out yH.below
      | false =>
       have HWc : Hid (∀ w0, Calls Tryz.prog 70 #[c.store] w0 fun e w' => e = .returned (.bool false) ∧ Below w0.heap.size w0 w') := hD (fun w0 => by have h := fits_any c.store w0; rw [hwc] at h; exact h); refine rd1 11 (fun K hK => ?_); go_simp; refine (HWc.out _).mono ?_; rintro e w' ⟨rfl, hb⟩; refine hK.out _ _ (yH.step hb) (fun yH => ?_); clear hK K; refine tn 12 ?_; refine tn 13 ?_; refine skn 2 [(14, some 44), (15, some 45), (16, some 46), (17, some 47), (18, some 48), (19, some 49), (20, some 50)] ?_; refine tn 21 ?_; refine tn 22 ?_; refine rdn ?_; have HT : Hid (kB ps c = false) := hD (by unfold kB; rw [HO.out, HXP.out]; (try rw [HV.out]); simp [*]); go_wp2_with fail; go_ret; exact retB_mk HT.out yH.below
     | false =>
      have HWb : Hid (∀ w0, Calls Tryz.prog 70 #[c.out] w0 fun e w' => e = .returned (.bool false) ∧ Below w0.heap.size w0 w') := hD (fun w0 => by have h := fits_any c.out w0; rw [hwb] at h; exact h); refine rd1 6 (fun K hK => ?_); go_simp; refine (HWb.out _).mono ?_; rintro e w' ⟨rfl, hb⟩; refine hK.out _ _ (yH.step hb) (fun yH => ?_); clear hK K; refine tn 7 ?_; refine tn 8 ?_; refine skn 11 [(9, some 39), (10, some 40), (11, some 41)] ?_; refine tn 12 ?_; refine tn 13 ?_; refine skn 2 [(14, some 44), (15, some 45), (16, some 46), (17, some 47), (18, some 48), (19, some 49), (20, some 50)] ?_; refine tn 21 ?_; refine tn 22 ?_; refine rdn ?_; have HT : Hid (kB ps c = false) := hD (by unfold kB; rw [HO.out, HXP.out]; (try rw [HV.out]); simp [*]); go_wp2_with fail; go_ret; exact retB_mk HT.out yH.below
    | false =>
     have HWa : Hid (∀ w0, Calls Tryz.prog 70 #[c.inn] w0 fun e w' => e = .returned (.bool false) ∧ Below w0.heap.size w0 w') := hD (fun w0 => by have h := fits_any c.inn w0; rw [hwa] at h; exact h); refine rd1 2 (fun K hK => ?_); go_simp; refine (HWa.out _).mono ?_; rintro e w' ⟨rfl, hb⟩; refine hK.out _ _ (yH.step hb) (fun yH => ?_); clear hK K; refine tn 3 ?_; refine skn 16 [(4, some 34), (5, some 35), (6, some 36)] ?_; refine tn 7 ?_; refine tn 8 ?_; refine skn 11 [(9, some 39), (10, some 40), (11, some 41)] ?_; refine tn 12 ?_; refine tn 13 ?_; refine skn 2 [(14, some 44), (15, some 45), (16, some 46), (17, some 47), (18, some 48), (19, some 49), (20, some 50)] ?_; refine tn 21 ?_; refine tn 22 ?_; refine rdn ?_; have HT : Hid (kB ps c = false) := hD (by unfold kB; rw [HO.out, HXP.out]; (try rw [HV.out]); simp [*]); go_wp2_with fail; go_ret; exact retB_mk HT.out yH.below
 ·
  by_cases h1 : c.office < 0
  ·
   have q1 : decide (c.office < 0) = true := decide_eq_true h1; have HT : Hid (kB ps c = false) := hD (by unfold kB; rw [officeB_f h0]; rfl); have HR := hD ((RowsS.nil w).alloc (.cells #[c.office, c.hour, c.inn, c.out, c.store, c.prev, c.e, c.s] 63)); clear h1 h0 hP; go_enter Tryz.func35, Tryz.ntmps35; go_upto_region 1 with fail; generalize w.alloc (.cells #[c.office, c.hour, c.inn, c.out, c.store, c.prev, c.e, c.s] 63) = wa at *; have c0 := HR.out.cell 0 0 rfl rfl; go_wp2_with fail; go_ret; exact retB_mk HT.out HR.out.below
  ·
   have q1 : decide (c.office < 0) = false := decide_eq_false h1; have q2 : decide ((3 : Int) ≤ c.office) = true := decide_eq_true (by omega); have HT : Hid (kB ps c = false) := hD (by unfold kB; rw [officeB_f h0]; rfl); have HR := hD ((RowsS.nil w).alloc (.cells #[c.office, c.hour, c.inn, c.out, c.store, c.prev, c.e, c.s] 63)); clear h1 h0 hP; go_enter Tryz.func35, Tryz.ntmps35; go_upto_region 1 with fail; generalize w.alloc (.cells #[c.office, c.hour, c.inn, c.out, c.store, c.prev, c.e, c.s] 63) = wa at *; have c0 := HR.out.cell 0 0 rfl rfl; go_wp2_with fail; go_ret; exact retB_mk HT.out HR.out.below
theorem rvow (ps : List Int) (ap : Option Addr) (cp : Nat) (p : PV) (w : World) (hP : LArg RInt 1 (.slice ap ps.length cp) ps w) (hl : ps.length = 3) (hO : POk p) : Calls Tryz.prog 36 #[.slice ap 3 cp, .agg #[p.office, p.since, p.till, p.litres, p.e, p.s]] w (RetB (vB ps p) w) := by
 by_cases h0 : 0 ≤ p.office ∧ p.office < 3
 ·
  obtain ⟨j, ho⟩ : ∃ j : Nat, p.office = (j : Int) := ⟨p.office.toNat, by omega⟩; have hj : j < 3 := by omega
  have HO : Hid (officeB p.office = true) := hD (officeB_t h0); obtain ⟨x, hx⟩ : ∃ x, ps[j]? = some x := ⟨_, List.getElem?_eq_getElem (by omega)⟩; have HXP : Hid ((ps[p.office.toNat]?).getD 0 = x) := hD (by rw [ho, Int.toNat_natCast, hx]; rfl); obtain ⟨b, o, cs, rfl, hbr, -, hrg, rfl, hxI⟩ := hP.at hx; have HPM : Hid (w.cell? ⟨b, o + j, none⟩ = some (.int .i64 x)) := hD (by have := hrg 0 _ rfl; rw [Nat.mul_one, Nat.add_zero] at this; exact this); have q1 : decide ((j : Int) < 0) = false := decide_eq_false (by omega); have q2 : decide ((3 : Int) ≤ (j : Int)) = false := decide_eq_false (by omega); have h00 : (j : Int) < 3 := by omega
  rw [ho]; have HOO := hD ho; clear hP hrg hx h0 hl ho; have HR := hD ((RowsS.nil w).alloc (.cells #[(j : Int), p.since, p.till, p.litres, p.e, p.s] 38)); go_enter Tryz.func36, Tryz.ntmps36; go_upto_region 1 with fail; generalize w.alloc (.cells #[(j : Int), p.since, p.till, p.litres, p.e, p.s] 38) = wa at *; have c0 := HR.out.cell 0 0 rfl rfl; go_upto_region 3 with fail; clear c0; refine wrd (S := RowsS w _) (HR.out.drew) (fun yH => ?_); refine tn 0 ?_; refine tn 1 ?_ (hx := cx fun _ h => h.cell 0 3 rfl rfl)
  cases hwa : withinB p.litres with
  | true =>
   have HWa : Hid (∀ w0, Calls Tryz.prog 70 #[p.litres] w0 fun e w' => e = .returned (.bool true) ∧ Below w0.heap.size w0 w') := hD (fun w0 => by have h := fits_any p.litres w0; rw [hwa] at h; exact h); refine rd1 2 (fun K hK => ?_); go_simp; refine (HWa.out _).mono ?_; rintro e w' ⟨rfl, hb⟩; refine hK.out _ _ (yH.step hb) (fun yH => ?_); clear hK K; refine tn 3 ?_; refine tn 4 ?_; refine tn 5 ?_; refine tn 6 ?_ (hx := cx fun _ h => h.cell 0 0 rfl rfl); refine tn 7 ?_; refine tn 8 ?_ (hx := fun wz hSw => by have e4 := (hSw.below.cell hbr).trans HPM.out; go_simp; try with_reducible rfl); refine tn 9 ?_ (hx := ldw 0 undPm infoPm); by_cases h7 : VouchedP x p
   ·
    have HV : Hid (decide (VouchedP x p) = true) := hD (decide_eq_true h7); have HVe : Hid (∀ w0, Calls Tryz.prog 72 #[.int .i64 x, .agg #[(j : Int), p.since, p.till, p.litres, p.e, p.s]] w0 fun e w' => e = .returned (.bool true) ∧ Below w0.heap.size w0 w') := hD (fun w0 => by have h := rverifyP_any x p w0 hxI hO; rw [HV.out] at h; rw [HOO.out] at h; exact h); clear h7; refine rd1 10 (fun K hK => ?_); go_simp; refine (HVe.out _).mono ?_; rintro e w' ⟨rfl, hb⟩; refine hK.out _ _ (yH.step hb) (fun yH => ?_); clear hK K; refine tn 11 ?_; refine tn 12 ?_; refine rdn ?_; have HT : Hid (vB ps p = true) := hD (by unfold vB; rw [HO.out, HXP.out]; (try rw [HV.out]); simp [*]); go_wp2_with fail; go_ret; exact retB_mk HT.out yH.below
   ·
    have HV : Hid (decide (VouchedP x p) = false) := hD (decide_eq_false h7); have HVe : Hid (∀ w0, Calls Tryz.prog 72 #[.int .i64 x, .agg #[(j : Int), p.since, p.till, p.litres, p.e, p.s]] w0 fun e w' => e = .returned (.bool false) ∧ Below w0.heap.size w0 w') := hD (fun w0 => by have h := rverifyP_any x p w0 hxI hO; rw [HV.out] at h; rw [HOO.out] at h; exact h); clear h7; refine rd1 10 (fun K hK => ?_); go_simp; refine (HVe.out _).mono ?_; rintro e w' ⟨rfl, hb⟩; refine hK.out _ _ (yH.step hb) (fun yH => ?_); clear hK K; refine tn 11 ?_; refine tn 12 ?_; refine rdn ?_; have HT : Hid (vB ps p = false) := hD (by unfold vB; rw [HO.out, HXP.out]; (try rw [HV.out]); simp [*]); go_wp2_with fail; go_ret; exact retB_mk HT.out yH.below
  | false =>
   have HWa : Hid (∀ w0, Calls Tryz.prog 70 #[p.litres] w0 fun e w' => e = .returned (.bool false) ∧ Below w0.heap.size w0 w') := hD (fun w0 => by have h := fits_any p.litres w0; rw [hwa] at h; exact h); refine rd1 2 (fun K hK => ?_); go_simp; refine (HWa.out _).mono ?_; rintro e w' ⟨rfl, hb⟩; refine hK.out _ _ (yH.step hb) (fun yH => ?_); clear hK K; refine tn 3 ?_; refine skn 2 [(4, some 24), (5, some 25), (6, some 26), (7, some 27), (8, some 28), (9, some 29), (10, some 30)] ?_; refine tn 11 ?_; refine tn 12 ?_; refine rdn ?_; have HT : Hid (vB ps p = false) := hD (by unfold vB; rw [HO.out, HXP.out]; (try rw [HV.out]); simp [*]); go_wp2_with fail; go_ret; exact retB_mk HT.out yH.below
 ·
  by_cases h1 : p.office < 0
  ·
   have q1 : decide (p.office < 0) = true := decide_eq_true h1; have HT : Hid (vB ps p = false) := hD (by unfold vB; rw [officeB_f h0]; rfl); have HR := hD ((RowsS.nil w).alloc (.cells #[p.office, p.since, p.till, p.litres, p.e, p.s] 38)); clear h1 h0 hP; go_enter Tryz.func36, Tryz.ntmps36; go_upto_region 1 with fail; generalize w.alloc (.cells #[p.office, p.since, p.till, p.litres, p.e, p.s] 38) = wa at *; have c0 := HR.out.cell 0 0 rfl rfl; go_wp2_with fail; go_ret; exact retB_mk HT.out HR.out.below
  ·
   have q1 : decide (p.office < 0) = false := decide_eq_false h1; have q2 : decide ((3 : Int) ≤ p.office) = true := decide_eq_true (by omega); have HT : Hid (vB ps p = false) := hD (by unfold vB; rw [officeB_f h0]; rfl); have HR := hD ((RowsS.nil w).alloc (.cells #[p.office, p.since, p.till, p.litres, p.e, p.s] 38)); clear h1 h0 hP; go_enter Tryz.func36, Tryz.ntmps36; go_upto_region 1 with fail; generalize w.alloc (.cells #[p.office, p.since, p.till, p.litres, p.e, p.s] 38) = wa at *; have c0 := HR.out.cell 0 0 rfl rfl; go_wp2_with fail; go_ret; exact retB_mk HT.out HR.out.below
def netR (pubs : List PublicV) (o f u : Int) : Option SpanV := if 0 ≤ o ∧ o < 3 then sumR pubs o f u else none
theorem rnet (pubs : List PublicV) (aq : Option Addr) (nq : Nat) (o f u : Int) (w : World) (hQ : LArg RPublic 4 (.slice aq pubs.length nq) pubs w) (hl : pubs.length ≤ 1000) (hf : I64 f) (hu : I64 u) (hI : ∀ p ∈ pubs, PbI p) : Calls Tryz.prog 18 #[.slice aq pubs.length nq, o, .int .i64 f, .int .i64 u] w (RetBt (netR pubs o f u) w) := by
 by_cases h0 : 0 ≤ o ∧ o < 3
 ·
  have q1 : decide (o < 0) = false := decide_eq_false (by omega); have q2 : decide (3 ≤ o) = false := decide_eq_false (by omega); have HR0 := hD ((RowsS.nil w).alloc (.cells #[(), ()] 53)); have HS : Hid (∀ w0, Below w.heap.size w w0 → Calls Tryz.prog 46 #[.slice aq pubs.length nq, o, .int .i64 f, .int .i64 u] w0 (RetBt (sumR pubs o f u) w0)) := hD (fun w0 hb => sum46_any pubs aq nq o f u w0 (hQ.below stays_Public hb) hl (by omega) hf hu hI); have HE : Hid (netR pubs o f u = sumR pubs o f u) := hD (by unfold netR; rw [if_pos h0]); clear h0 hQ hI hf hu hl; go_enter Tryz.func18, Tryz.ntmps18; go_upto_region 1 with fail; generalize w.alloc (.cells #[(), ()] 53) = w0 at *; go_wp2_with fail; refine (HS.out _ HR0.out.below).mono ?_; rintro e w1 ⟨rfl, hb⟩; have HR1 := hD (HR0.out.step hb); clear hb; obtain ⟨r, hr⟩ : ∃ r, r = sumR pubs o f u := ⟨_, rfl⟩; have HE2 : Hid (netR pubs o f u = r) := hD (by rw [HE.out, hr]); rw [← hr]; clear hr HS HE
  cases r with
  | none =>
   dsimp only [Option.getD, Option.isSome]; go_wp2_with (refine sRW #[(), ()] (HR1.out.row 0 rfl) infoSp ?_); have HRZ := hD (HR1.out.set (i := 0) (cs' := #[(), ()]) rfl); exact bpr (HRZ.out.row 0 rfl) undSp infoSp (retSm_none HE2.out HRZ.out.below)
  | some t =>
   dsimp only [Option.getD, Option.isSome]; go_wp2_with (refine sRW #[t.lo, t.hi] (HR1.out.row 0 rfl) infoSp ?_); have HRZ := hD (HR1.out.set (i := 0) (cs' := #[t.lo, t.hi]) rfl); exact bpr (HRZ.out.row 0 rfl) undSp infoSp (retSm_some HE2.out HRZ.out.below)
 ·
  by_cases h1 : o < 0
  ·
   have q1 : decide (o < 0) = true := decide_eq_true h1; have HN : Hid (netR pubs o f u = none) := hD (by unfold netR; rw [if_neg h0]); have HR0 := hD ((RowsS.nil w).alloc (.cells #[(), ()] 53)); clear h0 h1 hQ hI hl hf hu; go_enter Tryz.func18, Tryz.ntmps18; go_upto_region 1 with fail; generalize w.alloc (.cells #[(), ()] 53) = w0 at *; go_wp2_with (refine sRW #[(), ()] (HR0.out.row 0 rfl) infoSp ?_); have HRZ := hD (HR0.out.set (i := 0) (cs' := #[(), ()]) rfl); exact bpr (HRZ.out.row 0 rfl) undSp infoSp (retSm_none HN.out HRZ.out.below)
  ·
   have q1 : decide (o < 0) = false := decide_eq_false h1; have q2 : decide (3 ≤ o) = true := decide_eq_true (by omega); have HN : Hid (netR pubs o f u = none) := hD (by unfold netR; rw [if_neg h0]); have HR0 := hD ((RowsS.nil w).alloc (.cells #[(), ()] 53)); clear h0 h1 hQ hI hl hf hu; go_enter Tryz.func18, Tryz.ntmps18; go_upto_region 1 with fail; generalize w.alloc (.cells #[(), ()] 53) = w0 at *; go_wp2_with (refine sRW #[(), ()] (HR0.out.row 0 rfl) infoSp ?_); have HRZ := hD (HR0.out.set (i := 0) (cs' := #[(), ()]) rfl); exact bpr (HRZ.out.row 0 rfl) undSp infoSp (retSm_none HN.out HRZ.out.below)
end Go.Proofs.YtjbjpkhibcnenaaGreatDoor
/- audit.Net is what the reference's Net is. -/
namespace Go.Proofs.YtjbjpkhibcnenaaGreatDoor
set_option maxRecDepth 100000
set_option maxHeartbeats 8000000
open Go.RowKit
theorem isSums_at {H : Int → Option PublicV} {pick : PublicV → SpanV} {f u : Int} {L : List SpanV} (h : IsSums H pick f u L) (hfu : f ≤ u) :
 match sumN H pick f (u - f).toNat with
 | some s => L.length = (u - f).toNat + 1 ∧ L[(u - f).toNat]? = some s
 | none => L.length ≤ (u - f).toNat := by
 have h1 := h (u - f).toNat; have h2 := h ((u - f).toNat + 1); rw [if_pos (by omega)] at h1; rw [if_neg (by omega)] at h2; have h3 := List.getElem?_eq_none_iff.1 h2
 cases e : sumN H pick f (u - f).toNat with
 | some s =>
  rw [e] at h1; have := (List.getElem?_eq_some_iff.1 h1).1; exact ⟨by omega, h1⟩
 | none =>
  rw [e] at h1; exact List.getElem?_eq_none_iff.1 h1
theorem isSums_pos {H : Int → Option PublicV} {pick : PublicV → SpanV} {f u : Int} {L : List SpanV} (h : IsSums H pick f u L) : 1 ≤ L.length := by
 have h1 := h 0; rw [if_pos (Or.inl rfl), show sumN H pick f 0 = some ⟨0, 0⟩ from rfl] at h1; have := (List.getElem?_eq_some_iff.1 h1).1; omega
theorem anet_any (pubs : List PublicV) (aq : Option Addr) (nq : Nat) (o f u : Int) (w : World) (hQ : LArg RPublic 4 (.slice aq pubs.length nq) pubs w) (hl : pubs.length ≤ 1000) (hf : I64 f) (hu : I64 u) (hI : ∀ p ∈ pubs, PbI p) : Calls Tryz.prog 17 #[.slice aq pubs.length nq, o, .int .i64 f, .int .i64 u] w (RetBt (netR pubs o f u) w) := by
 have HR0 := hD ((RowsS.nil w).alloc (.cells #[(), ()] 53)); by_cases h1 : o < 0
 ·
  have q1 : decide (o < 0) = true := decide_eq_true h1; have HN : Hid (netR pubs o f u = none) := hD (by unfold netR; rw [if_neg (by omega)]); clear hQ hI hl hf hu; go_enter Tryz.func17, Tryz.ntmps17; go_upto_region 1 with fail; generalize w.alloc (.cells #[(), ()] 53) = w0 at *; go_wp2_with (refine sRW #[(), ()] (HR0.out.row 0 rfl) infoSp ?_); have HRZ := hD (HR0.out.set (i := 0) (cs' := #[(), ()]) rfl); exact bpr (HRZ.out.row 0 rfl) undSp infoSp (retSm_none HN.out HRZ.out.below)
 ·
  have q1 : decide (o < 0) = false := decide_eq_false h1; by_cases h2 : 3 ≤ o
  ·
   have q2 : decide (3 ≤ o) = true := decide_eq_true h2; have HN : Hid (netR pubs o f u = none) := hD (by unfold netR; rw [if_neg (by omega)]); clear hQ hI hl hf hu; go_enter Tryz.func17, Tryz.ntmps17; go_upto_region 1 with fail; generalize w.alloc (.cells #[(), ()] 53) = w0 at *; go_wp2_with (refine sRW #[(), ()] (HR0.out.row 0 rfl) infoSp ?_); have HRZ := hD (HR0.out.set (i := 0) (cs' := #[(), ()]) rfl); exact bpr (HRZ.out.row 0 rfl) undSp infoSp (retSm_none HN.out HRZ.out.below)
  ·
   have q2 : decide (3 ≤ o) = false := decide_eq_false h2; by_cases h3 : u < f
   ·
    have q3 : decide (u < f) = true := decide_eq_true h3; have HN : Hid (netR pubs o f u = none) := hD (by unfold netR; rw [if_pos (by omega)]; unfold sumR; rw [if_neg (by omega)]); clear hQ hI hl hf hu; go_enter Tryz.func17, Tryz.ntmps17; go_upto_region 1 with fail; generalize w.alloc (.cells #[(), ()] 53) = w0 at *; go_wp2_with (refine sRW #[(), ()] (HR0.out.row 0 rfl) infoSp ?_); have HRZ := hD (HR0.out.set (i := 0) (cs' := #[(), ()]) rfl); exact bpr (HRZ.out.row 0 rfl) undSp infoSp (retSm_none HN.out HRZ.out.below)
   ·
    have q3 : decide (u < f) = false := decide_eq_false h3; obtain ⟨j, rfl⟩ : ∃ j : Nat, o = (j : Int) := ⟨o.toNat, by omega⟩; have hj : j < 3 := by omega
    have hfu : f ≤ u := by omega
    have HE : Hid (netR pubs (j : Int) f u = sumN (hoursF pubs) (netP j) f (u - f).toNat) := hD (by unfold netR sumR pickO; rw [if_pos (by omega), if_pos hfu, if_pos (by omega)]); have HQ := hD hQ; have HI := hD hI; have HFI := hD hf; have HUI := hD hu; clear hQ hI hf hu h1 h2 h3; go_enter Tryz.func17, Tryz.ntmps17; go_upto_region 3 with fail; generalize w.alloc (.cells #[(), ()] 53) = w0 at *; clear q1 q2 q3; go_wp2_with fail; refine (byHour_any pubs _ _ (HQ.out.below stays_Public HR0.out.below) hl).mono ?_; rintro e w1 ⟨mb, rfl, hh, hb⟩; have HR1 := hD (HR0.out.step hb); have HH1 := hD hh; clear hh hb; go_wp2_with fail; refine (net_any (j : Int) _).mono ?_; rintro e w2 ⟨rfl, hw2⟩; have HR2 := hD (HR1.out.alloc (.cells #[(j : Int)] 3)); have HH2 := hD (HH1.out.below ((Below.refl _ _).alloc (Nat.le_refl _) (.cells #[(j : Int)] 3))); rw [← hw2] at HR2 HH2; generalize w1.heap.size = ob at *; clear hw2 HR1 HH1; go_wp2_with fail; refine (sumsN_any pubs mb f u _ HH2.out HFI.out HUI.out HI.out hl j ob hj (HR2.out.cell 1 0 rfl rfl) (blk_lt (HR2.out.row 1 rfl))).mono ?_; rintro e w3 ⟨v, L, rfl, hL, hS, hb⟩; have HR3 := hD (HR2.out.step hb); have HL := hD hL; have HS := hD hS; have hpos := isSums_pos hS; clear hL hS hb HR2 HH2; obtain ⟨aL, cL, rfl, hlc, hlm⟩ := HL.out.slice; have hLm : L.length ≤ 9223372036854775807 := by unfold maxLen at hlm; omega
    have W1 : IntKind.i64.wrap ((L.length : Int) - 1) = (L.length : Int) - 1 := IntWalk.i64_in _ (by omega); have hfi := HFI.out; have hui := HUI.out; unfold I64 at hfi hui; obtain ⟨z, hz⟩ : ∃ z, z = IntKind.i64.wrap (u - f) := ⟨_, rfl⟩
    have hzv : (u - f ≤ 9223372036854775807 ∧ z = u - f) ∨ (9223372036854775807 < u - f ∧ z < 0) := by
     by_cases hbig : u - f ≤ 9223372036854775807
     · exact Or.inl ⟨hbig, by rw [hz]; exact IntWalk.i64_in _ (by omega)⟩
     ·
      refine Or.inr ⟨by omega, ?_⟩; rw [hz]; unfold IntKind.wrap; simp [IntKind.signed, IntKind.bits]; omega
    have W2 : IntKind.i64.wrap (u - f) = z := hz.symm; clear hz; have hlast := isSums_at HS.out hfu
    cases hs : sumN (hoursF pubs) (netP j) f (u - f).toNat with
    | none =>
     rw [hs] at hlast HE; dsimp only at hlast; have q1 : ((L.length : Int) - 1 == z) = false := by rw [beq_eq_false_iff_ne]; omega
     have q2 : ((L.length : Int) - 1 != z) = true := by rw [bne_iff_ne]; omega
     clear hs hlast hzv hfi hui hfu; go_wp2_with (refine sRW #[(), ()] (HR3.out.row 0 rfl) infoSp ?_); have HRZ := hD (HR3.out.set (i := 0) (cs' := #[(), ()]) rfl); exact bpr (HRZ.out.row 0 rfl) undSp infoSp (retBt_none HE.out HRZ.out.below)
    | some s =>
     have hsl := sumN_len hs; rw [hs] at hlast HE; dsimp only at hlast; obtain ⟨hl1, hl2⟩ := hlast; obtain ⟨b, o, cs, rfl, hb2, -, hrg, rfl, -⟩ := HL.out.at hl2; obtain ⟨m, hm⟩ : ∃ m, m = (u - f).toNat := ⟨_, rfl⟩; rw [← hm] at hrg hl1 hsl; have hzm : z = (m : Int) := by omega
     subst hzm; have HRG := hD (show w3.rangeAt b _ _ from hrg); have W3 : (L.length : Int) - 1 = (m : Int) := by omega
     have W4 : IntKind.i64.wrap (m : Int) = (m : Int) := IntWalk.i64_in _ (by omega); have q1 : ((m : Int) == (m : Int)) = true := by rw [beq_iff_eq]
     have q2 : ((m : Int) != (m : Int)) = false := by rw [bne_eq_false_iff_eq]
     have hml : m < L.length := by omega
     have hmi : (m : Int) < L.length := by omega
     clear hs hl1 hl2 hrg hm hsl hzv hfi hui hfu; rw [W3] at W1; go_wp2_with (first | (refine lRG HRG.out undSp infoSp ?_) | (refine sRW #[s.lo, s.hi] (HR3.out.row 0 rfl) infoSp ?_)); have HRZ := hD (HR3.out.set (i := 0) (cs' := #[s.lo, s.hi]) rfl); exact bpr (HRZ.out.row 0 rfl) undSp infoSp (retBt_some HE.out HRZ.out.below)
end Go.Proofs.YtjbjpkhibcnenaaGreatDoor
