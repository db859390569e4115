/- bourneref45: follows, Chain, Same. -/
import Derived.Test.YtgjklfddoechpaaGreatDoorCRefA
import Derived.Test.YtgjklfddoechpaaGreatDoorCChain
import Derived.Test.YtgjklfddoechpaaGreatDoorCEq
import Derived.Outline
namespace Go.Proofs.YtgjklfddoechpaaGreatDoor
open Go.RowKit
set_option maxRecDepth 100000 in
set_option maxHeartbeats 4000000 in
theorem follows_any (ps : List Int) (l : List CV) (vp vl : Value) (i : Nat) (w : World) (hP : LArg RInt 1 vp ps w) (hL : LArg RC 8 vl l w) (hi : i < l.length) (hps : ps.length ≤ 100) (hl : l.length ≤ 100) (hpr : ∀ c ∈ l, c.prev.size ≤ 900) :
    Calls Tryz.prog 65 #[vp, vl, .int .i64 i] w fun e w' => e = .returned (.bool (okCh ps l i)) ∧ Below w.heap.size w w' := by
  obtain ⟨c, hc⟩ : ∃ c, l[i]? = some c := ⟨_, List.getElem?_eq_getElem hi⟩
  obtain ⟨al, lc, rfl, hlc, hlm⟩ := hL.slice
  obtain ⟨b, o, cs, hal, hbl0, -, hrg, hcs⟩ := hL.at hc
  subst hal
  rw [hcs.1] at hrg
  have hok := hcs.2.1
  have hpc := hpr c (List.mem_of_getElem? hc)
  obtain ⟨ap, pc, rfl, hpc2, hpm⟩ := hP.slice
  rw [ok_here hc]
  obtain ⟨z, hz⟩ : ∃ z, z = (q1 ps c && (q2 ps c && (q3 i c && (q4 l i c && q5 l i c)))) := ⟨_, rfl⟩
  rw [← hz]
  have HZ := Lib.hid hz
  clear hz
  have HP := Lib.hid hP
  have HL := Lib.hid hL
  have HPR := Lib.hid hpr
  have HC := Lib.hid hc
  have c0 : w.cell? ⟨b, o + i * 8, none⟩ = some (.int .i64 c.office) := hrg 0 _ rfl
  have c1 : w.cell? ⟨b, o + i * 8 + 1, none⟩ = some (.int .i64 c.hour) := hrg 1 _ rfl
  have c2 : w.cell? ⟨b, o + i * 8 + 2, none⟩ = some (.int .i64 c.inn) := hrg 2 _ rfl
  have c3 : w.cell? ⟨b, o + i * 8 + 3, none⟩ = some (.int .i64 c.out) := hrg 3 _ rfl
  have c4 : w.cell? ⟨b, o + i * 8 + 4, none⟩ = some (.int .i64 c.store) := hrg 4 _ rfl
  have c5 : w.cell? ⟨b, o + i * 8 + 5, none⟩ = some (.string c.prev) := hrg 5 _ rfl
  have c6 : w.cell? ⟨b, o + i * 8 + 6, none⟩ = some (.int .i64 c.e) := hrg 6 _ rfl
  have c7 : w.cell? ⟨b, o + i * 8 + 7, none⟩ = some (.int .i64 c.s) := hrg 7 _ rfl
  clear hP hL hpr hc hcs hlm hpm hrg
  obtain ⟨d, hd⟩ : ∃ d, i ≠ 0 → l[i - 1]? = some d := by
    by_cases h : i = 0
    · exact ⟨c, fun h2 => absurd h h2⟩
    · exact ⟨l[i - 1]'(by omega), fun _ => List.getElem?_eq_getElem (by omega)⟩
  obtain ⟨f, hf⟩ : ∃ f, l[0]? = some f := ⟨_, List.getElem?_eq_getElem (by omega)⟩
  have HD := Lib.hid hd
  have HF := Lib.hid hf
  clear hd hf
  go_enter Tryz.func65, Tryz.ntmps65
  go_upto_region 2 with fail
  have HK := Lib.hid (heap_alloc_new w (.cells #[.int .i64 c.office, .int .i64 c.hour, .int .i64 c.inn, .int .i64 c.out, .int .i64 c.store, .string c.prev, .int .i64 c.e, .int .i64 c.s] 25))
  have HB := Lib.hid ((Below.refl w.heap.size w).alloc (Nat.le_refl _) (.cells #[.int .i64 c.office, .int .i64 c.hour, .int .i64 c.inn, .int .i64 c.out, .int .i64 c.store, .string c.prev, .int .i64 c.e, .int .i64 c.s] 25))
  generalize w.alloc (.cells #[.int .i64 c.office, .int .i64 c.hour, .int .i64 c.inn, .int .i64 c.out, .int .i64 c.store, .string c.prev, .int .i64 c.e, .int .i64 c.s] 25) = w1 at *
  clear c0 c1 c2 c3 c4 c5 c6 c7
  have hKl := blk_lt HK.out
  have k0 : w1.cell? ⟨w.heap.size, 0, none⟩ = some (.int .i64 c.office) := (cell_of_row _ _ _ _ _ _ HK.out).trans rfl
  have k1 : w1.cell? ⟨w.heap.size, 1, none⟩ = some (.int .i64 c.hour) := (cell_of_row _ _ _ _ _ _ HK.out).trans rfl
  have k2 : w1.cell? ⟨w.heap.size, 2, none⟩ = some (.int .i64 c.inn) := (cell_of_row _ _ _ _ _ _ HK.out).trans rfl
  have k3 : w1.cell? ⟨w.heap.size, 3, none⟩ = some (.int .i64 c.out) := (cell_of_row _ _ _ _ _ _ HK.out).trans rfl
  have k4 : w1.cell? ⟨w.heap.size, 4, none⟩ = some (.int .i64 c.store) := (cell_of_row _ _ _ _ _ _ HK.out).trans rfl
  have k5 : w1.cell? ⟨w.heap.size, 5, none⟩ = some (.string c.prev) := (cell_of_row _ _ _ _ _ _ HK.out).trans rfl
  have k6 : w1.cell? ⟨w.heap.size, 6, none⟩ = some (.int .i64 c.e) := (cell_of_row _ _ _ _ _ _ HK.out).trans rfl
  have k7 : w1.cell? ⟨w.heap.size, 7, none⟩ = some (.int .i64 c.s) := (cell_of_row _ _ _ _ _ _ HK.out).trans rfl
  by_cases hneg : c.office < 0
  · have t1 : decide (c.office < 0) = true := decide_eq_true hneg
    have e1 : q1 ps c = false := decide_eq_false (by omega)
    rw [e1, Bool.false_and] at HZ
    clear e1 hneg HPR HP HL HC HD HF hok hpc hKl
    generalize c.office = x1 at *
    go_quiet (fail)
    go_wp2_with fail
    go_ret
    exact ⟨by rw [HZ.out]; rfl, below_drewN HB.out⟩
  by_cases hbig : (ps.length : Int) ≤ c.office
  · have t1 : decide (c.office < 0) = false := decide_eq_false hneg
    have t2 : decide ((ps.length : Int) ≤ c.office) = true := decide_eq_true hbig
    have e1 : q1 ps c = false := decide_eq_false (by omega)
    rw [e1, Bool.false_and] at HZ
    clear e1 hneg hbig HPR HP HL HC HD HF hok hpc hKl
    generalize c.office = x1 at *
    go_quiet (fail)
    go_wp2_with fail
    go_ret
    exact ⟨by rw [HZ.out]; rfl, below_drewN HB.out⟩
  obtain ⟨j, hj⟩ : ∃ j : Nat, c.office = (j : Int) := ⟨c.office.toNat, by omega⟩
  have hjl : j < ps.length := by omega
  obtain ⟨x, hx⟩ : ∃ x, ps[j]? = some x := ⟨_, List.getElem?_eq_getElem hjl⟩
  have e1 : q1 ps c = true := decide_eq_true (by omega)
  have e2 : q2 ps c = decide (VouchedC x c) := by
    unfold q2
    rw [show c.office.toNat = j by omega, hx]
  obtain ⟨pb, po, cs, hap, hpb, -, hpx, hxs⟩ := HP.out.at hx
  subst hap
  rw [hxs.1] at hpx
  have px : w.cell? ⟨pb, po + j, none⟩ = some (.int .i64 x) := by
    have h7 := hpx 0 _ rfl
    rw [Nat.mul_one, Nat.add_zero] at h7
    exact h7
  rw [e1, e2, Bool.true_and] at HZ
  obtain ⟨r, hr⟩ : ∃ r, r = decide (VouchedC x c) := ⟨_, rfl⟩
  have HV : Hid (∀ w0, Calls Tryz.prog 23 #[.int .i64 x, .agg #[.int .i64 c.office, .int .i64 c.hour, .int .i64 c.inn, .int .i64 c.out, .int .i64 c.store, .string c.prev, .int .i64 c.e, .int .i64 c.s]] w0 fun e w' => e = .returned (.bool r) ∧ Below w0.heap.size w0 w') := Lib.hid (fun w0 => by
    rw [hr]
    exact rverifyC_any x c w0 hxs.2 hok hpc)
  rw [← hr] at HZ
  have PX := Lib.hid ((HB.out.cell (p := ⟨pb, po + j, none⟩) hpb).trans px)
  have hpb1 : pb < w1.heap.size := by have := HB.out.size; omega
  have hb1 : b < w1.heap.size := by have := HB.out.size; omega
  clear hr e1 e2 hneg hbig hpx px hxs hx hpb
  have HSB : Hid (∀ w', Below w1.heap.size w1 w' → Below w1.heap.size w1 w' ∧ w'.cell? ⟨w.heap.size, 0, none⟩ = some (.int .i64 c.office) ∧ w'.cell? ⟨w.heap.size, 1, none⟩ = some (.int .i64 c.hour) ∧ w'.cell? ⟨w.heap.size, 2, none⟩ = some (.int .i64 c.inn) ∧ w'.cell? ⟨w.heap.size, 3, none⟩ = some (.int .i64 c.out) ∧ w'.cell? ⟨w.heap.size, 4, none⟩ = some (.int .i64 c.store) ∧ w'.cell? ⟨w.heap.size, 5, none⟩ = some (.string c.prev) ∧ w'.cell? ⟨w.heap.size, 6, none⟩ = some (.int .i64 c.e) ∧ w'.cell? ⟨w.heap.size, 7, none⟩ = some (.int .i64 c.s) ∧ w'.cell? ⟨pb, po + j, none⟩ = some (.int .i64 x)) := Lib.hid (fun w' h => ⟨h, (h.cell (p := ⟨w.heap.size, 0, none⟩) hKl).trans k0, (h.cell (p := ⟨w.heap.size, 1, none⟩) hKl).trans k1, (h.cell (p := ⟨w.heap.size, 2, none⟩) hKl).trans k2, (h.cell (p := ⟨w.heap.size, 3, none⟩) hKl).trans k3, (h.cell (p := ⟨w.heap.size, 4, none⟩) hKl).trans k4, (h.cell (p := ⟨w.heap.size, 5, none⟩) hKl).trans k5, (h.cell (p := ⟨w.heap.size, 6, none⟩) hKl).trans k6, (h.cell (p := ⟨w.heap.size, 7, none⟩) hKl).trans k7, (h.cell (p := ⟨pb, po + j, none⟩) hpb1).trans PX.out⟩)
  rw [hj] at HSB HV HK k0
  have t1 : decide ((j : Int) < 0) = false := decide_eq_false (by omega)
  have t2 : decide (ps.length ≤ j) = false := decide_eq_false (by omega)
  clear k0 k1 k2 k3 k4 k5 k6 k7
  go_region_held3 (fun w' => Below w1.heap.size w1 w' ∧ w'.cell? ⟨w.heap.size, 0, none⟩ = some (.int .i64 (j : Int)) ∧ w'.cell? ⟨w.heap.size, 1, none⟩ = some (.int .i64 c.hour) ∧ w'.cell? ⟨w.heap.size, 2, none⟩ = some (.int .i64 c.inn) ∧ w'.cell? ⟨w.heap.size, 3, none⟩ = some (.int .i64 c.out) ∧ w'.cell? ⟨w.heap.size, 4, none⟩ = some (.int .i64 c.store) ∧ w'.cell? ⟨w.heap.size, 5, none⟩ = some (.string c.prev) ∧ w'.cell? ⟨w.heap.size, 6, none⟩ = some (.int .i64 c.e) ∧ w'.cell? ⟨w.heap.size, 7, none⟩ = some (.int .i64 c.s) ∧ w'.cell? ⟨pb, po + j, none⟩ = some (.int .i64 x)) (first | assumption | exact HSB.out _ (Below.refl _ _) | exact HSB.out _ (Below.refl _ _).drew | exact HSB.out _ ((show Below w1.heap.size w1 _ ∧ _ by assumption).1.trans (hb.mono (show Below w1.heap.size w1 _ ∧ _ by assumption).1.size)) | exact HSB.out _ (below_drewN (show Below w1.heap.size w1 _ ∧ _ by assumption).1)) ((first | (go_at_call 23; refine (HV.out _).mono ?_; rintro e w' ⟨rfl, hb⟩)))
  rename _ ∧ _ => hFin
  rename World => w2
  have HB12 := Lib.hid hFin.1
  have HBw := Lib.hid (HB.out.trans (hFin.1.mono HB.out.size))
  clear hFin HSB HV
  cases r with
  | false =>
    rw [Bool.false_and] at HZ
    go_wp2_with fail
    go_ret
    exact ⟨by rw [HZ.out]; rfl, HBw.out⟩
  | true =>
    rw [Bool.true_and] at HZ
    have hKl2 : w.heap.size < w2.heap.size := by have := HB12.out.size; omega
    have HK2 := Lib.hid (blk_below HK.out HB12.out hKl)
    have k0 : w2.cell? ⟨w.heap.size, 0, none⟩ = some (.int .i64 (j : Int)) := (cell_of_row _ _ _ _ _ _ HK2.out).trans rfl
    have k1 : w2.cell? ⟨w.heap.size, 1, none⟩ = some (.int .i64 c.hour) := (cell_of_row _ _ _ _ _ _ HK2.out).trans rfl
    have k2 : w2.cell? ⟨w.heap.size, 2, none⟩ = some (.int .i64 c.inn) := (cell_of_row _ _ _ _ _ _ HK2.out).trans rfl
    have k3 : w2.cell? ⟨w.heap.size, 3, none⟩ = some (.int .i64 c.out) := (cell_of_row _ _ _ _ _ _ HK2.out).trans rfl
    have k4 : w2.cell? ⟨w.heap.size, 4, none⟩ = some (.int .i64 c.store) := (cell_of_row _ _ _ _ _ _ HK2.out).trans rfl
    have k5 : w2.cell? ⟨w.heap.size, 5, none⟩ = some (.string c.prev) := (cell_of_row _ _ _ _ _ _ HK2.out).trans rfl
    have k6 : w2.cell? ⟨w.heap.size, 6, none⟩ = some (.int .i64 c.e) := (cell_of_row _ _ _ _ _ _ HK2.out).trans rfl
    have k7 : w2.cell? ⟨w.heap.size, 7, none⟩ = some (.int .i64 c.s) := (cell_of_row _ _ _ _ _ _ HK2.out).trans rfl
    by_cases hi0 : i = 0
    · subst hi0
      have e3 : c.prev.toList.isEmpty = (q3 0 c && (q4 l 0 c && q5 l 0 c)) := by
        unfold q3 q4 q5
        rw [if_pos rfl, if_pos rfl, Bool.and_true, Bool.and_true, Bool.eq_iff_iff, List.isEmpty_iff, decide_eq_true_iff]
        constructor
        · intro h
          exact Or.inr (str_eqC (by rw [h, ByteArray.toList_eq]))
        · rintro (h | h)
          · omega
          · rw [h, ByteArray.toList_eq]
      rw [← e3] at HZ
      clear e3 HPR HP HL HC HD HF hok hpc hKl hKl2 PX hjl hj HK HK2 HB HB12
      generalize c.prev = cp at *
      go_wp2_with fail
      go_ret
      exact ⟨by rw [HZ.out]; rfl, HBw.out⟩
    obtain ⟨m, hm⟩ : ∃ m, i = m + 1 := ⟨i - 1, by omega⟩
    have hdm : l[m]? = some d := by
      have h := HD.out hi0
      rw [hm, Nat.add_sub_cancel] at h
      exact h
    obtain ⟨b2, o2, cs2, ha2, -, -, hrg2, hcs2⟩ := HL.out.at hdm
    obtain ⟨rfl, rfl⟩ : b = b2 ∧ o = o2 := by simpa using ha2
    obtain ⟨b3, o3, cs3, ha3, -, -, hrg3, hcs3⟩ := HL.out.at HF.out
    obtain ⟨rfl, rfl⟩ : b = b3 ∧ o = o3 := by simpa using ha3
    rw [hcs2.1] at hrg2
    rw [hcs3.1] at hrg3
    have hbw : b < w.heap.size := hbl0
    have d0 : w2.cell? ⟨b, o + m * 8, none⟩ = some (.int .i64 d.office) := (HBw.out.cell (p := ⟨b, o + m * 8, none⟩) hbw).trans (hrg2 0 _ rfl)
    have d1 : w2.cell? ⟨b, o + m * 8 + 1, none⟩ = some (.int .i64 d.hour) := (HBw.out.cell (p := ⟨b, o + m * 8 + 1, none⟩) hbw).trans (hrg2 1 _ rfl)
    have d2 : w2.cell? ⟨b, o + m * 8 + 2, none⟩ = some (.int .i64 d.inn) := (HBw.out.cell (p := ⟨b, o + m * 8 + 2, none⟩) hbw).trans (hrg2 2 _ rfl)
    have d3 : w2.cell? ⟨b, o + m * 8 + 3, none⟩ = some (.int .i64 d.out) := (HBw.out.cell (p := ⟨b, o + m * 8 + 3, none⟩) hbw).trans (hrg2 3 _ rfl)
    have d4 : w2.cell? ⟨b, o + m * 8 + 4, none⟩ = some (.int .i64 d.store) := (HBw.out.cell (p := ⟨b, o + m * 8 + 4, none⟩) hbw).trans (hrg2 4 _ rfl)
    have d5 : w2.cell? ⟨b, o + m * 8 + 5, none⟩ = some (.string d.prev) := (HBw.out.cell (p := ⟨b, o + m * 8 + 5, none⟩) hbw).trans (hrg2 5 _ rfl)
    have d6 : w2.cell? ⟨b, o + m * 8 + 6, none⟩ = some (.int .i64 d.e) := (HBw.out.cell (p := ⟨b, o + m * 8 + 6, none⟩) hbw).trans (hrg2 6 _ rfl)
    have d7 : w2.cell? ⟨b, o + m * 8 + 7, none⟩ = some (.int .i64 d.s) := (HBw.out.cell (p := ⟨b, o + m * 8 + 7, none⟩) hbw).trans (hrg2 7 _ rfl)
    have f0 : w2.cell? ⟨b, o, none⟩ = some (.int .i64 f.office) := by
      have h := hrg3 0 _ rfl
      rw [Nat.zero_mul] at h
      exact (HBw.out.cell (p := ⟨b, o, none⟩) hbw).trans h
    have hdok := hcs2.2.1
    have hdp := HPR.out d (List.mem_of_getElem? hdm)
    have hi0b : ((i : Int) == 0) = false := by rw [beq_eq_false_iff_ne]; omega
    have FI : (i : Int) - 1 = (m : Int) := by omega
    have hml : m < l.length := by omega
    have h0l : 0 < l.length := by omega
    have hm100 : m < 100 := by omega
    have hi100 : i < 100 := by omega
    have e4 : (q3 i c && (q4 l i c && q5 l i c)) = (decide ((j : Int) = f.office ∧ d.hour < c.hour) && decide (c.prev = digB d)) := by
      have a3 : q3 i c = true := decide_eq_true (Or.inl (by omega))
      have a4 : q4 l i c = decide ((j : Int) = f.office ∧ d.hour < c.hour) := by
        unfold q4
        rw [if_neg hi0, HD.out hi0, HF.out, hj]
      have a5 : q5 l i c = decide (c.prev = digB d) := by
        unfold q5
        rw [if_neg hi0, HD.out hi0]
      rw [a3, a4, a5, Bool.true_and]
    rw [e4] at HZ
    clear e4 HPR HP HL HC HD HF hok hpc hKl PX hj HK HK2 HB HB12 ha2 ha3 hrg2 hrg3 hcs2 hcs3 hdm hm hi0
    by_cases h1 : (j : Int) = f.office
    · have t1 : ((j : Int) == f.office) = true := by rw [beq_iff_eq]; exact h1
      by_cases h2 : d.hour < c.hour
      · have t2 : decide (d.hour < c.hour) = true := decide_eq_true h2
        rw [decide_eq_true ⟨h1, h2⟩, Bool.true_and] at HZ
        clear h1 h2
        obtain ⟨D, hD⟩ : ∃ D, D = digB d := ⟨_, rfl⟩
        have HV : Hid (∀ w0, Calls Tryz.prog 17 #[.agg #[.int .i64 d.office, .int .i64 d.hour, .int .i64 d.inn, .int .i64 d.out, .int .i64 d.store, .string d.prev, .int .i64 d.e, .int .i64 d.s]] w0 fun e w' => e = .returned (.string D) ∧ Below w0.heap.size w0 w') := Lib.hid (fun w0 => by
          rw [hD]
          exact rdigestC_any d w0 hdok (by omega))
        have hq : (c.prev.toList == D.toList) = decide (c.prev = digB d) := by
          rw [← hD]
          by_cases h : c.prev = D
          · rw [h, decide_eq_true rfl]; simp
          · rw [decide_eq_false h, beq_eq_false_iff_ne]
            exact fun e => h (str_eqC e)
        generalize decide (c.prev = digB d) = r at *
        clear hdok hdp hD
        have hb2 : b < w2.heap.size := by have := HBw.out.size; omega
        have HSB : Hid (∀ w', Below w2.heap.size w2 w' → Below w2.heap.size w2 w' ∧ w'.cell? ⟨w.heap.size, 0, none⟩ = some (.int .i64 (j : Int)) ∧ w'.cell? ⟨w.heap.size, 1, none⟩ = some (.int .i64 c.hour) ∧ w'.cell? ⟨w.heap.size, 2, none⟩ = some (.int .i64 c.inn) ∧ w'.cell? ⟨w.heap.size, 3, none⟩ = some (.int .i64 c.out) ∧ w'.cell? ⟨w.heap.size, 4, none⟩ = some (.int .i64 c.store) ∧ w'.cell? ⟨w.heap.size, 5, none⟩ = some (.string c.prev) ∧ w'.cell? ⟨w.heap.size, 6, none⟩ = some (.int .i64 c.e) ∧ w'.cell? ⟨w.heap.size, 7, none⟩ = some (.int .i64 c.s) ∧ w'.cell? ⟨b, o + m * 8, none⟩ = some (.int .i64 d.office) ∧ w'.cell? ⟨b, o + m * 8 + 1, none⟩ = some (.int .i64 d.hour) ∧ w'.cell? ⟨b, o + m * 8 + 2, none⟩ = some (.int .i64 d.inn) ∧ w'.cell? ⟨b, o + m * 8 + 3, none⟩ = some (.int .i64 d.out) ∧ w'.cell? ⟨b, o + m * 8 + 4, none⟩ = some (.int .i64 d.store) ∧ w'.cell? ⟨b, o + m * 8 + 5, none⟩ = some (.string d.prev) ∧ w'.cell? ⟨b, o + m * 8 + 6, none⟩ = some (.int .i64 d.e) ∧ w'.cell? ⟨b, o + m * 8 + 7, none⟩ = some (.int .i64 d.s) ∧ w'.cell? ⟨b, o, none⟩ = some (.int .i64 f.office)) := Lib.hid (fun w' h => ⟨h, (h.cell (p := ⟨w.heap.size, 0, none⟩) hKl2).trans k0, (h.cell (p := ⟨w.heap.size, 1, none⟩) hKl2).trans k1, (h.cell (p := ⟨w.heap.size, 2, none⟩) hKl2).trans k2, (h.cell (p := ⟨w.heap.size, 3, none⟩) hKl2).trans k3, (h.cell (p := ⟨w.heap.size, 4, none⟩) hKl2).trans k4, (h.cell (p := ⟨w.heap.size, 5, none⟩) hKl2).trans k5, (h.cell (p := ⟨w.heap.size, 6, none⟩) hKl2).trans k6, (h.cell (p := ⟨w.heap.size, 7, none⟩) hKl2).trans k7, (h.cell (p := ⟨b, o + m * 8, none⟩) hb2).trans d0, (h.cell (p := ⟨b, o + m * 8 + 1, none⟩) hb2).trans d1, (h.cell (p := ⟨b, o + m * 8 + 2, none⟩) hb2).trans d2, (h.cell (p := ⟨b, o + m * 8 + 3, none⟩) hb2).trans d3, (h.cell (p := ⟨b, o + m * 8 + 4, none⟩) hb2).trans d4, (h.cell (p := ⟨b, o + m * 8 + 5, none⟩) hb2).trans d5, (h.cell (p := ⟨b, o + m * 8 + 6, none⟩) hb2).trans d6, (h.cell (p := ⟨b, o + m * 8 + 7, none⟩) hb2).trans d7, (h.cell (p := ⟨b, o, none⟩) hb2).trans f0⟩)
        clear k0 d0 k1 d1 k2 d2 k3 d3 k4 d4 k5 d5 k6 d6 k7 d7 f0
        have FW : IntKind.i64.wrap ((i : Int) - 1) = (m : Int) := by
          rw [FI]
          exact IntWalk.i64_in _ (by omega)
        have FW2 : IntKind.i64.wrap (m : Int) = (m : Int) := IntWalk.i64_in _ (by omega)
        go_upto_region 6 with fail
        refine wp_region_noPanic ?_
        refine wp_region_held_drew (S := fun w' => Below w2.heap.size w2 w' ∧ w'.cell? ⟨w.heap.size, 0, none⟩ = some (.int .i64 (j : Int)) ∧ w'.cell? ⟨w.heap.size, 1, none⟩ = some (.int .i64 c.hour) ∧ w'.cell? ⟨w.heap.size, 2, none⟩ = some (.int .i64 c.inn) ∧ w'.cell? ⟨w.heap.size, 3, none⟩ = some (.int .i64 c.out) ∧ w'.cell? ⟨w.heap.size, 4, none⟩ = some (.int .i64 c.store) ∧ w'.cell? ⟨w.heap.size, 5, none⟩ = some (.string c.prev) ∧ w'.cell? ⟨w.heap.size, 6, none⟩ = some (.int .i64 c.e) ∧ w'.cell? ⟨w.heap.size, 7, none⟩ = some (.int .i64 c.s) ∧ w'.cell? ⟨b, o + m * 8, none⟩ = some (.int .i64 d.office) ∧ w'.cell? ⟨b, o + m * 8 + 1, none⟩ = some (.int .i64 d.hour) ∧ w'.cell? ⟨b, o + m * 8 + 2, none⟩ = some (.int .i64 d.inn) ∧ w'.cell? ⟨b, o + m * 8 + 3, none⟩ = some (.int .i64 d.out) ∧ w'.cell? ⟨b, o + m * 8 + 4, none⟩ = some (.int .i64 d.store) ∧ w'.cell? ⟨b, o + m * 8 + 5, none⟩ = some (.string d.prev) ∧ w'.cell? ⟨b, o + m * 8 + 6, none⟩ = some (.int .i64 d.e) ∧ w'.cell? ⟨b, o + m * 8 + 7, none⟩ = some (.int .i64 d.s) ∧ w'.cell? ⟨b, o, none⟩ = some (.int .i64 f.office)) (by kernel_rfl) (HSB.out _ (Below.refl _ _).drew) (fun hHeld => ?_)
        refine' wpAnyH_take (i := 0) (v := _) (by simp only [List.getElem?_toArray, List.getElem?_cons_succ, List.getElem?_cons_zero]; exact rfl) (by kernel_rfl) (by kernel_rfl) (by kernel_rfl) (fun _ _ _ h => h) (Or.inl ⟨by rfl, ?y0x1⟩) hHeld ?r0x1
        case y0x1 => (intro w hSw; (try dsimp only at hSw); go_simp; try with_reducible rfl)
        try simp only [Act.put, List.setIfInBounds_toArray, List.set_cons_zero, List.set_cons_succ]
        refine' wpAnyH_take (i := 1) (v := _) (by simp only [List.getElem?_toArray, List.getElem?_cons_succ, List.getElem?_cons_zero]; exact rfl) (by kernel_rfl) (by kernel_rfl) (by kernel_rfl) (fun _ _ _ h => h) (Or.inl ⟨by rfl, ?y1x2⟩) hHeld ?r1x2
        case y1x2 => (intro w hSw; (try dsimp only at hSw); go_simp; try with_reducible rfl)
        try simp only [Act.put, List.setIfInBounds_toArray, List.set_cons_zero, List.set_cons_succ]
        refine' wpAnyH_take (i := 2) (v := _) (by simp only [List.getElem?_toArray, List.getElem?_cons_succ, List.getElem?_cons_zero]; exact rfl) (by kernel_rfl) (by kernel_rfl) (by kernel_rfl) (fun _ _ _ h => h) (Or.inl ⟨by rfl, ?y2x3⟩) hHeld ?r2x3
        case y2x3 => (intro w hSw; (try dsimp only at hSw); go_simp; try with_reducible rfl)
        try simp only [Act.put, List.setIfInBounds_toArray, List.set_cons_zero, List.set_cons_succ]
        refine' wpAnyH_take (i := 3) (v := _) (by simp only [List.getElem?_toArray, List.getElem?_cons_succ, List.getElem?_cons_zero]; exact rfl) (by kernel_rfl) (by kernel_rfl) (by kernel_rfl) (fun _ _ _ h => h) (Or.inl ⟨by rfl, ?y3x4⟩) hHeld ?r3x4
        case y3x4 => (intro w hSw; (try dsimp only at hSw); go_simp; try with_reducible rfl)
        try simp only [Act.put, List.setIfInBounds_toArray, List.set_cons_zero, List.set_cons_succ]
        refine' wpAnyH_take (i := 4) (v := _) (by simp only [List.getElem?_toArray, List.getElem?_cons_succ, List.getElem?_cons_zero]; exact rfl) (by kernel_rfl) (by kernel_rfl) (by kernel_rfl) (fun _ _ _ h => h) (Or.inl ⟨by rfl, ?y4x5⟩) hHeld ?r4x5
        case y4x5 => (intro w hSw; (try dsimp only at hSw); go_simp; try with_reducible rfl)
        try simp only [Act.put, List.setIfInBounds_toArray, List.set_cons_zero, List.set_cons_succ]
        refine' wpAnyH_take (i := 5) (v := _) (by simp only [List.getElem?_toArray, List.getElem?_cons_succ, List.getElem?_cons_zero]; exact rfl) (by kernel_rfl) (by kernel_rfl) (by kernel_rfl) (fun _ _ _ h => h) (Or.inl ⟨by rfl, ?y5x6⟩) hHeld ?r5x6
        case y5x6 => (intro w hSw; (try dsimp only at hSw); go_simp; try with_reducible rfl)
        try simp only [Act.put, List.setIfInBounds_toArray, List.set_cons_zero, List.set_cons_succ]
        refine' wpAnyH_take (i := 6) (v := _) (by simp only [List.getElem?_toArray, List.getElem?_cons_succ, List.getElem?_cons_zero]; exact rfl) (by kernel_rfl) (by kernel_rfl) (by kernel_rfl) (fun _ _ _ h => h) (Or.inl ⟨by rfl, ?y6x7⟩) hHeld ?r6x7
        case y6x7 => (intro w hSw; (try dsimp only at hSw); go_simp; try with_reducible rfl)
        try simp only [Act.put, List.setIfInBounds_toArray, List.set_cons_zero, List.set_cons_succ]
        refine' wpAnyH_take (i := 7) (v := _) (by simp only [List.getElem?_toArray, List.getElem?_cons_succ, List.getElem?_cons_zero]; exact rfl) (by kernel_rfl) (by kernel_rfl) (by kernel_rfl) (fun _ _ _ h => h) (Or.inl ⟨by rfl, ?y7x8⟩) hHeld ?r7x8
        case y7x8 => (intro w hSw; (try dsimp only at hSw); go_simp; try with_reducible rfl)
        try simp only [Act.put, List.setIfInBounds_toArray, List.set_cons_zero, List.set_cons_succ]
        refine' wpAnyH_take (i := 8) (v := _) (by simp only [List.getElem?_toArray, List.getElem?_cons_succ, List.getElem?_cons_zero]; exact rfl) (by kernel_rfl) (by kernel_rfl) (by kernel_rfl) (fun _ _ _ h => h) (Or.inl ⟨by rfl, ?y8x9⟩) hHeld ?r8x9
        case y8x9 => (intro w hSw; (try dsimp only at hSw); go_simp; try with_reducible rfl)
        try simp only [Act.put, List.setIfInBounds_toArray, List.set_cons_zero, List.set_cons_succ]
        refine' wpAnyH_take (i := 9) (v := _) (by simp only [List.getElem?_toArray, List.getElem?_cons_succ, List.getElem?_cons_zero]; exact rfl) (by kernel_rfl) (by kernel_rfl) (by kernel_rfl) (fun _ _ _ h => h) (Or.inl ⟨by rfl, ?y9x10⟩) hHeld ?r9x10
        case y9x10 => (intro w hSw; (try dsimp only at hSw); go_simp; try with_reducible rfl)
        try simp only [Act.put, List.setIfInBounds_toArray, List.set_cons_zero, List.set_cons_succ]
        refine' wpAnyH_take (i := 10) (v := _) (by simp only [List.getElem?_toArray, List.getElem?_cons_succ, List.getElem?_cons_zero]; exact rfl) (by kernel_rfl) (by kernel_rfl) (by kernel_rfl) (fun _ _ _ h => h) (Or.inl ⟨by rfl, ?y10x11⟩) hHeld ?r10x11
        case y10x11 => (intro w hSw; (try dsimp only at hSw); go_simp; try with_reducible rfl)
        try simp only [Act.put, List.setIfInBounds_toArray, List.set_cons_zero, List.set_cons_succ]
        refine' wpAnyH_take (i := 11) (v := _) (by simp only [List.getElem?_toArray, List.getElem?_cons_succ, List.getElem?_cons_zero]; exact rfl) (by kernel_rfl) (by kernel_rfl) (by kernel_rfl) (fun _ _ _ h => h) (Or.inl ⟨by rfl, ?y11x12⟩) hHeld ?r11x12
        case y11x12 => (intro w hSw; (try dsimp only at hSw); go_simp; try with_reducible rfl)
        try simp only [Act.put, List.setIfInBounds_toArray, List.set_cons_zero, List.set_cons_succ]
        refine' wpAnyH_take (i := 12) (v := _) (by simp only [List.getElem?_toArray, List.getElem?_cons_succ, List.getElem?_cons_zero]; exact rfl) (by kernel_rfl) (by kernel_rfl) (by kernel_rfl) (fun _ _ _ h => h) (Or.inl ⟨by rfl, ?y12x13⟩) hHeld ?r12x13
        case y12x13 => (intro w hSw; (try dsimp only at hSw); go_simp; try with_reducible rfl)
        try simp only [Act.put, List.setIfInBounds_toArray, List.set_cons_zero, List.set_cons_succ]
        try simp only [FW]
        try simp only [FI]
        try simp only [FW2]
        refine' wpAnyH_take (i := 13) (v := _) (by simp only [List.getElem?_toArray, List.getElem?_cons_succ, List.getElem?_cons_zero]; exact rfl) (by kernel_rfl) (by kernel_rfl) (by kernel_rfl) (fun _ _ _ h => h) (Or.inl ⟨by rfl, ?y13x14⟩) hHeld ?r13x14
        case y13x14 => (intro w hSw; (try dsimp only at hSw); go_simp; try with_reducible rfl)
        try simp only [Act.put, List.setIfInBounds_toArray, List.set_cons_zero, List.set_cons_succ]
        refine' wpAnyH_take (i := 14) (v := _) (by simp only [List.getElem?_toArray, List.getElem?_cons_succ, List.getElem?_cons_zero]; exact rfl) (by kernel_rfl) (by kernel_rfl) (by kernel_rfl) (fun _ _ _ h => h) (Or.inl ⟨by rfl, ?y14x15⟩) hHeld ?r14x15
        case y14x15 => (intro w hSw; (try dsimp only at hSw); go_simp; try with_reducible rfl)
        try simp only [Act.put, List.setIfInBounds_toArray, List.set_cons_zero, List.set_cons_succ]
        refine' wpAnyH_take (i := 15) (v := _) (by simp only [List.getElem?_toArray, List.getElem?_cons_succ, List.getElem?_cons_zero]; exact rfl) (by kernel_rfl) (by kernel_rfl) (by kernel_rfl) (fun _ _ _ h => h) (Or.inl ⟨by rfl, ?y15x16⟩) hHeld ?r15x16
        case y15x16 => (intro w hSw; (try dsimp only at hSw); go_simp; try with_reducible rfl)
        try simp only [Act.put, List.setIfInBounds_toArray, List.set_cons_zero, List.set_cons_succ]
        refine' wpAnyH_take (i := 16) (v := _) (by simp only [List.getElem?_toArray, List.getElem?_cons_succ, List.getElem?_cons_zero]; exact rfl) (by kernel_rfl) (by kernel_rfl) (by kernel_rfl) (fun _ _ _ h => h) (Or.inl ⟨by rfl, ?y16x17⟩) hHeld ?r16x17
        case y16x17 => (intro w hSw; (try dsimp only at hSw); go_simp; try with_reducible rfl)
        try simp only [Act.put, List.setIfInBounds_toArray, List.set_cons_zero, List.set_cons_succ]
        refine' wpAnyH_take (i := 17) (v := _) (by simp only [List.getElem?_toArray, List.getElem?_cons_succ, List.getElem?_cons_zero]; exact rfl) (by kernel_rfl) (by kernel_rfl) (by kernel_rfl) (fun _ _ _ h => h) (Or.inl ⟨by rfl, ?y17x18⟩) hHeld ?r17x18
        case y17x18 => (intro w hSw; (try dsimp only at hSw); go_simp; try with_reducible rfl)
        try simp only [Act.put, List.setIfInBounds_toArray, List.set_cons_zero, List.set_cons_succ]
        refine' wpAnyH_take (i := 18) (v := _) (by simp only [List.getElem?_toArray, List.getElem?_cons_succ, List.getElem?_cons_zero]; exact rfl) (by kernel_rfl) (by kernel_rfl) (by kernel_rfl) (fun _ _ _ h => h) (Or.inl ⟨by rfl, ?y18x19⟩) hHeld ?r18x19
        case y18x19 => (intro w hSw; (try dsimp only at hSw); go_simp; try with_reducible rfl)
        try simp only [Act.put, List.setIfInBounds_toArray, List.set_cons_zero, List.set_cons_succ]
        refine' wpAnyH_take (i := 19) (v := _) (by simp only [List.getElem?_toArray, List.getElem?_cons_succ, List.getElem?_cons_zero]; exact rfl) (by kernel_rfl) (by kernel_rfl) (by kernel_rfl) (fun _ _ _ h => h) (Or.inl ⟨by rfl, ?y19x20⟩) hHeld ?r19x20
        case y19x20 => (intro w hSw; (try dsimp only at hSw); go_simp; try with_reducible rfl)
        try simp only [Act.put, List.setIfInBounds_toArray, List.set_cons_zero, List.set_cons_succ]
        refine' wpAnyH_take (i := 20) (v := _) (by simp only [List.getElem?_toArray, List.getElem?_cons_succ, List.getElem?_cons_zero]; exact rfl) (by kernel_rfl) (by kernel_rfl) (by kernel_rfl) (fun _ _ _ h => h) (Or.inl ⟨by rfl, ?y20x21⟩) hHeld ?r20x21
        case y20x21 => (intro w hSw; (try dsimp only at hSw); go_simp; try with_reducible rfl)
        try simp only [Act.put, List.setIfInBounds_toArray, List.set_cons_zero, List.set_cons_succ]
        refine' wpAnyH_take (i := 21) (v := _) (by simp only [List.getElem?_toArray, List.getElem?_cons_succ, List.getElem?_cons_zero]; exact rfl) (by kernel_rfl) (by kernel_rfl) (by kernel_rfl) (fun _ _ _ h => h) (Or.inl ⟨by rfl, ?y21x22⟩) hHeld ?r21x22
        case y21x22 => (intro w hSw; (try dsimp only at hSw); go_simp; try with_reducible rfl)
        try simp only [Act.put, List.setIfInBounds_toArray, List.set_cons_zero, List.set_cons_succ]
        refine' wpAnyH_take (i := 22) (v := _) (by simp only [List.getElem?_toArray, List.getElem?_cons_succ, List.getElem?_cons_zero]; exact rfl) (by kernel_rfl) (by kernel_rfl) (by kernel_rfl) (fun _ _ _ h => h) (Or.inl ⟨by rfl, ?y22x23⟩) hHeld ?r22x23
        case y22x23 => (intro w hSw; (try dsimp only at hSw); go_simp; try with_reducible rfl)
        try simp only [Act.put, List.setIfInBounds_toArray, List.set_cons_zero, List.set_cons_succ]
        refine' wpAnyH_take (i := 23) (v := _) (by simp only [List.getElem?_toArray, List.getElem?_cons_succ, List.getElem?_cons_zero]; exact rfl) (by kernel_rfl) (by kernel_rfl) (by kernel_rfl) (fun _ _ _ h => h) (Or.inl ⟨by rfl, ?y23x24⟩) hHeld ?r23x24
        case y23x24 => (intro w hSw; (try dsimp only at hSw); go_simp; try with_reducible rfl)
        try simp only [Act.put, List.setIfInBounds_toArray, List.set_cons_zero, List.set_cons_succ]
        try simp only [FW]
        try simp only [FI]
        try simp only [FW2]
        refine' wpAnyH_take (i := 24) (v := _) (by simp only [List.getElem?_toArray, List.getElem?_cons_succ, List.getElem?_cons_zero]; exact rfl) (by kernel_rfl) (by kernel_rfl) (by kernel_rfl) (fun _ _ _ h => h) (Or.inl ⟨by rfl, ?y24x25⟩) hHeld ?r24x25
        case y24x25 => (intro w hSw; (try dsimp only at hSw); go_simp; try with_reducible rfl)
        try simp only [Act.put, List.setIfInBounds_toArray, List.set_cons_zero, List.set_cons_succ]
        refine' wpAnyH_take (i := 25) (v := _) (by simp only [List.getElem?_toArray, List.getElem?_cons_succ, List.getElem?_cons_zero]; exact rfl) (by kernel_rfl) (by kernel_rfl) (by kernel_rfl) (fun _ _ _ h => h) (Or.inl ⟨by rfl, ?y25x26⟩) hHeld ?r25x26
        case y25x26 => (intro w hSw; (try dsimp only at hSw); go_simp; try with_reducible rfl)
        try simp only [Act.put, List.setIfInBounds_toArray, List.set_cons_zero, List.set_cons_succ]
        refine wpAnyH_ready (rs := [26]) (by kernel_rfl) (by simp) ?_
        refine AllReadyH.cons (by simp only [List.getElem?_toArray, List.getElem?_cons_succ, List.getElem?_cons_zero]; exact rfl) (fun K hK => ?_) AllReadyH.nil
        go_simp
        refine (HV.out _).mono ?_
        rintro e w' ⟨rfl, hb⟩
        refine hK.out _ _ (HSB.out _ (hHeld.1.trans (hb.mono hHeld.1.size))) (fun hHeld => ?_)
        clear hK K hb
        try simp only [Act.put, List.setIfInBounds_toArray, List.set_cons_zero, List.set_cons_succ]
        refine' wpAnyH_take (i := 27) (v := _) (by simp only [List.getElem?_toArray, List.getElem?_cons_succ, List.getElem?_cons_zero]; exact rfl) (by kernel_rfl) (by kernel_rfl) (by kernel_rfl) (fun _ _ _ h => h) (Or.inl ⟨by rfl, ?y27x27⟩) hHeld ?r27x27
        case y27x27 => (intro w hSw; (try dsimp only at hSw); go_simp; try with_reducible rfl)
        try simp only [Act.put, List.setIfInBounds_toArray, List.set_cons_zero, List.set_cons_succ]
        refine' wpAnyH_take (i := 28) (v := _) (by simp only [List.getElem?_toArray, List.getElem?_cons_succ, List.getElem?_cons_zero]; exact rfl) (by kernel_rfl) (by kernel_rfl) (by kernel_rfl) (fun _ _ _ h => h) (Or.inl ⟨by rfl, ?y28x28⟩) hHeld ?r28x28
        case y28x28 => (intro w hSw; (try dsimp only at hSw); go_simp; try with_reducible rfl)
        try simp only [Act.put, List.setIfInBounds_toArray, List.set_cons_zero, List.set_cons_succ]
        refine' wpAnyH_take (i := 29) (v := _) (by simp only [List.getElem?_toArray, List.getElem?_cons_succ, List.getElem?_cons_zero]; exact rfl) (by kernel_rfl) (by kernel_rfl) (by kernel_rfl) (fun _ _ _ h => h) (Or.inl ⟨by rfl, ?y29x29⟩) hHeld ?r29x29
        case y29x29 => (intro w hSw; (try dsimp only at hSw); go_simp; try with_reducible rfl)
        try simp only [Act.put, List.setIfInBounds_toArray, List.set_cons_zero, List.set_cons_succ]
        refine wpAnyH_done (by kernel_rfl) ?_ _
        refine NoPanic.normal ?_
        have HBf := Lib.hid (HBw.out.trans (hHeld.1.mono HBw.out.size))
        go_wp2_with fail
        go_ret
        exact ⟨by rw [HZ.out]; rfl, HBf.out⟩
      · have t2 : decide (d.hour < c.hour) = false := decide_eq_false h2
        rw [decide_eq_false (fun h => h2 h.2), Bool.false_and] at HZ
        clear h1 h2 hdok hdp
        generalize f.office = x2 at *
        generalize d.hour = x3 at *
        generalize c.hour = x4 at *
        go_upto_region 6 with fail
        go_quiet (fail)
        go_wp2_with fail
        go_ret
        exact ⟨by rw [HZ.out]; rfl, below_drewN HBw.out⟩
    · have t1 : ((j : Int) == f.office) = false := by rw [beq_eq_false_iff_ne]; exact h1
      rw [decide_eq_false (fun h => h1 h.1), Bool.false_and] at HZ
      clear h1 hdok hdp
      generalize f.office = x2 at *
      go_upto_region 6 with fail
      go_quiet (fail)
      go_wp2_with fail
      go_ret
      exact ⟨by rw [HZ.out]; rfl, below_drewN HBw.out⟩
theorem larg_take {α : Type} {R : α → List Value → World → Prop} {w : World} {s m : Nat} {e t : TypeId} {a : Option Addr} {n c : Nat} {l : List α} (ht : Tryz.prog.underlying t = some (.slice e)) (he : Tryz.prog.elem t = e) (hsz : ∀ W, (sizeOf e).run Tryz.prog W = .ok s W) (h : LArg R s (.slice a n c) l w) (hm : m ≤ l.length) :
    ∃ v, (∀ W, (Instr.sliceAt t (.slice a n c) none (some (.int .i64 (m : Int))) none).run Tryz.prog W = .ok v W) ∧ LArg R s v (l.take m) w := by
  obtain ⟨a1, c1, h1, h2, h3⟩ := h.slice
  obtain ⟨rfl, rfl, rfl⟩ : a = a1 ∧ n = l.length ∧ c = c1 := by simpa using h1
  refine ⟨.slice (if c = 0 then a else a.map (·.add (0 * s))) m c, fun W => ?_, ?_⟩
  · rw [run_sliceAt_slice (t := t) (h := by rw [he]; exact ht), run_slice_h (t := t) (ht := by rw [he]; exact ht) (h0 := by omega) (h2 := by omega), he, hsz]
    simp only [Result.andThen_ok, sliced, Int.toNat_natCast, Nat.sub_zero]
  · have hl : (l.take m).length = m := by rw [List.length_take]; omega
    refine ⟨if c = 0 then a else a.map (·.add (0 * s)), c, by rw [hl], by omega, h3, fun j x hj => ?_⟩
    have hjm : l[j]? = some x := by
      rw [List.getElem?_take] at hj
      split at hj
      · exact hj
      · cases hj
    have hjl := (List.getElem?_eq_some_iff.1 hjm).1
    obtain ⟨b, o, cs, rfl, e2, e3, e4, e5⟩ := h.at hjm
    refine ⟨b, o, cs, ?_, e2, e3, e4, e5⟩
    rw [if_neg (by omega)]
    show some ((⟨b, o, none⟩ : Addr).add (0 * s)) = _
    rw [Addr.add_mid, Nat.zero_mul, Nat.add_zero]
theorem undCs : Tryz.prog.underlying 31 = some (.slice 25) := by kernel_rfl
theorem elemCs : Tryz.prog.elem 31 = 25 := by kernel_rfl
set_option maxRecDepth 100000 in
set_option maxHeartbeats 4000000 in
theorem rchain_any (ps : List Int) (l : List CV) (vp vl : Value) (w : World) (hP : LArg RInt 1 vp ps w) (hL : LArg RC 8 vl l w) (hps : ps.length ≤ 100) (hl : l.length ≤ 100) (hpr : ∀ c ∈ l, c.prev.size ≤ 900) :
    Calls Tryz.prog 29 #[vp, vl] w fun e w' => ∃ n v, IsCh ps l n ∧ e = .returned (.tuple #[v, .bool (decide (n = l.length))]) ∧ LArg RC 8 v (l.take n) w' ∧ Below w.heap.size w w' := by
  obtain ⟨al, lc, rfl, hlc, hlm⟩ := hL.slice
  have hz : ∀ W, (sizeOf 25).run Tryz.prog W = .ok 8 W := Tryz.sizeOf25
  have HT : Hid (∀ m, m ≤ l.length → ∃ v, (∀ W, (Instr.sliceAt 31 (.slice al l.length lc) none (some (.int .i64 (m : Int))) none).run Tryz.prog W = .ok v W) ∧ LArg RC 8 v (l.take m) w) := Lib.hid (fun m hm => larg_take undCs elemCs hz hL hm)
  have HF : Hid (∀ w0 i, Below w.heap.size w w0 → i < l.length → Calls Tryz.prog 65 #[vp, .slice al l.length lc, .int .i64 (i : Int)] w0 fun e w' => e = .returned (.bool (okCh ps l i)) ∧ Below w0.heap.size w0 w') := Lib.hid (fun w0 i h hi => follows_any ps l vp _ i w0 (hP.below stays_int h) (hL.below stays_RC h) hi hps hl hpr)
  clear hP hL hpr hz hlm
  go_enter Tryz.func29, Tryz.ntmps29
  go_wp2_with fail
  go_loopw [6] (fun iv wr => ∃ k : Nat, k ≤ l.length ∧ iv = .int .i64 k ∧ (∀ j, j < k → okCh ps l j = true) ∧ Below w.heap.size w wr) (fun iv _ => l.length - (intOf iv).toNat)
  case atStart => exact ⟨0, Nat.zero_le _, rfl, fun j hj => absurd hj (Nat.not_lt_zero j), Below.refl _ _⟩
  case round =>
    obtain ⟨k, hk, rfl, hall, hB⟩ := hrel
    have HA := Lib.hid hall
    have HB := Lib.hid hB
    clear hall hB
    obtain ⟨v, hv, hlv⟩ := HT.out k hk
    have HV := Lib.hid hlv
    clear hlv
    by_cases hlt : k < l.length
    · have hb1 : ((k : Int) == (l.length : Int)) = false := by rw [beq_eq_false_iff_ne]; omega
      go_wp2_with fail
      refine (HF.out _ k HB.out hlt).mono ?_
      rintro e w2 ⟨rfl, hb⟩
      have HB2 := Lib.hid (HB.out.trans (hb.mono HB.out.size))
      clear hb
      cases hok : okCh ps l k with
      | true =>
        have HA2 : Hid (∀ j, j < k + 1 → okCh ps l j = true) := Lib.hid (fun j hj => by
          by_cases h : j < k
          · exact HA.out j h
          · rw [show j = k by omega]; exact hok)
        go_wp2_with fail
        go_roundw
        case rel => exact ⟨k + 1, by omega, by go_num, HA2.out, HB2.out⟩
        case measure => simp [intOf]; omega
      | false =>
        have HI : Hid (IsCh ps l k) := Lib.hid ⟨hk, HA.out, Or.inr hok⟩
        go_wp2_with fail
        go_ret2
        exact ⟨k, v, HI.out, by rw [decide_eq_false (show ¬ k = l.length by omega)]; rfl, HV.out.below stays_RC HB2.out, HB2.out⟩
    · obtain rfl : k = l.length := by omega
      have HI : Hid (IsCh ps l l.length) := Lib.hid ⟨hk, HA.out, Or.inl rfl⟩
      go_wp2_with fail
      go_ret2
      exact ⟨l.length, v, HI.out, by rw [decide_eq_true rfl]; rfl, HV.out.below stays_RC HB.out, HB.out⟩
set_option maxRecDepth 100000 in
set_option maxHeartbeats 4000000 in
theorem rsame_any (l : List CV) (va vb : Value) (w : World) (hA : LArg RC 8 va l w) (hB : LArg RC 8 vb l w) (hl : l.length ≤ 100) :
    Calls Tryz.prog 30 #[va, vb] w fun e w' => e = .returned (.bool true) ∧ Below w.heap.size w w' := by
  obtain ⟨a1, q1, rfl, -, -⟩ := hA.slice
  obtain ⟨a2, q2, rfl, -, -⟩ := hB.slice
  have HA := Lib.hid hA
  have HB := Lib.hid hB
  clear hA hB
  go_enter Tryz.func30, Tryz.ntmps30
  go_wp2_with fail
  go_loopw [5] (fun iv wr => ∃ k : Nat, k ≤ l.length ∧ iv = .int .i64 k ∧ Below w.heap.size w wr) (fun iv _ => l.length - (intOf iv).toNat)
  case atStart => exact ⟨0, Nat.zero_le _, rfl, Below.refl _ _⟩
  case round =>
    obtain ⟨k, hk, rfl, hBw⟩ := hrel
    have HW := Lib.hid hBw
    clear hBw
    by_cases hlt : k < l.length
    · obtain ⟨c, hc⟩ : ∃ c, l[k]? = some c := ⟨_, List.getElem?_eq_getElem hlt⟩
      obtain ⟨g, o, cs, ha, hbl, -, hrg, hcs⟩ := (HA.out.below stays_RC HW.out).at hc
      subst ha
      rw [hcs.1] at hrg
      obtain ⟨g2, o2, cs2, ha, hbl2, -, hrg2, hcs2⟩ := (HB.out.below stays_RC HW.out).at hc
      subst ha
      rw [hcs2.1] at hrg2
      have c0 : wr.cell? ⟨g, o + k * 8, none⟩ = some (.int .i64 c.office) := hrg 0 _ rfl
      have d0 : wr.cell? ⟨g2, o2 + k * 8, none⟩ = some (.int .i64 c.office) := hrg2 0 _ rfl
      have c1 : wr.cell? ⟨g, o + k * 8 + 1, none⟩ = some (.int .i64 c.hour) := hrg 1 _ rfl
      have d1 : wr.cell? ⟨g2, o2 + k * 8 + 1, none⟩ = some (.int .i64 c.hour) := hrg2 1 _ rfl
      have c2 : wr.cell? ⟨g, o + k * 8 + 2, none⟩ = some (.int .i64 c.inn) := hrg 2 _ rfl
      have d2 : wr.cell? ⟨g2, o2 + k * 8 + 2, none⟩ = some (.int .i64 c.inn) := hrg2 2 _ rfl
      have c3 : wr.cell? ⟨g, o + k * 8 + 3, none⟩ = some (.int .i64 c.out) := hrg 3 _ rfl
      have d3 : wr.cell? ⟨g2, o2 + k * 8 + 3, none⟩ = some (.int .i64 c.out) := hrg2 3 _ rfl
      have c4 : wr.cell? ⟨g, o + k * 8 + 4, none⟩ = some (.int .i64 c.store) := hrg 4 _ rfl
      have d4 : wr.cell? ⟨g2, o2 + k * 8 + 4, none⟩ = some (.int .i64 c.store) := hrg2 4 _ rfl
      have c5 : wr.cell? ⟨g, o + k * 8 + 5, none⟩ = some (.string c.prev) := hrg 5 _ rfl
      have d5 : wr.cell? ⟨g2, o2 + k * 8 + 5, none⟩ = some (.string c.prev) := hrg2 5 _ rfl
      have c6 : wr.cell? ⟨g, o + k * 8 + 6, none⟩ = some (.int .i64 c.e) := hrg 6 _ rfl
      have d6 : wr.cell? ⟨g2, o2 + k * 8 + 6, none⟩ = some (.int .i64 c.e) := hrg2 6 _ rfl
      have c7 : wr.cell? ⟨g, o + k * 8 + 7, none⟩ = some (.int .i64 c.s) := hrg 7 _ rfl
      have d7 : wr.cell? ⟨g2, o2 + k * 8 + 7, none⟩ = some (.int .i64 c.s) := hrg2 7 _ rfl
      have heq := eqC c.office c.hour c.inn c.out c.store c.prev c.e c.s c.office c.hour c.inn c.out c.store c.prev c.e c.s
      rw [decide_eq_true ⟨rfl, rfl, rfl, rfl, rfl, rfl, rfl, rfl⟩] at heq
      clear hrg hrg2 hcs hcs2 hc HA HB
      generalize c.office = x0 at *
      generalize c.hour = x1 at *
      generalize c.inn = x2 at *
      generalize c.out = x3 at *
      generalize c.store = x4 at *
      generalize c.prev = x5 at *
      generalize c.e = x6 at *
      generalize c.s = x7 at *
      go_upto_region 6 with fail
      go_quiet (fail)
      go_wp2_with fail
      go_roundw
      case rel => exact ⟨k + 1, by omega, by go_num, below_drewN HW.out⟩
      case measure => simp [intOf]; omega
    · obtain rfl : k = l.length := by omega
      go_wp2_with fail
      go_ret
      exact ⟨rfl, HW.out⟩
end Go.Proofs.YtgjklfddoechpaaGreatDoor
