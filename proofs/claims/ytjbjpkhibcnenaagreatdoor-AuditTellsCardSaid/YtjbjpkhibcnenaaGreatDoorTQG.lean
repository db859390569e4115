/- Texts merged: TQF TQG -/
import Derived.Test.YtjbjpkhibcnenaaGreatDoorTQE
import Derived.Great.CaseRows
/- The reference of package audit: pair. -/
namespace Go.Proofs.YtjbjpkhibcnenaaGreatDoor
set_option maxRecDepth 100000
set_option maxHeartbeats 16000000
open Go.RowKit
def pairB (J : JV) (o why : Int) (c d : CV) : Bool := decide (c.office = o) && decide (d.office = o) && (if why = 0 then forkB c d else if why = 1 then balB J o c d else if why = 3 then decide (o = 2) && mouB J c d else false)
def overB (r : Option SpanV) (n k : Int) : Bool := match r with | some t => beyondB n t k | none => false
theorem balB_is {err : Int} {room ps : List Int} {pubs : List PublicV} {o : Int} {c d : CV} (ho : 0 ≤ o ∧ o < 3) : balB (judgeV err room ps pubs) o c d = (decide (c.hour < d.hour) && overB (netR pubs o c.hour d.hour) ((d.store - c.store) - (d.inn - c.inn) + (d.out - c.out)) (6 * err)) := by
 unfold balB laterB betwN judgeV netR sumR pickO overB; dsimp only; rw [if_pos ho, if_pos ho.2]; by_cases h : c.hour < d.hour
 ·
  rw [if_pos h, if_pos (by omega), decide_eq_true h, Bool.true_and]
  rfl
 · rw [if_neg h, decide_eq_false h, Bool.false_and]
theorem mouB_is {err : Int} {room ps : List Int} {pubs : List PublicV} {c d : CV} : mouB (judgeV err room ps pubs) c d = (decide (c.hour < d.hour) && overB (sumR pubs 3 c.hour d.hour) (d.out - c.out) (2 * err)) := by
 unfold mouB laterB betwN judgeV sumR pickO overB; dsimp only; rw [if_neg (show ¬ (3 : Int) < 3 by omega)]; by_cases h : c.hour < d.hour
 ·
  rw [if_pos h, if_pos (by omega), decide_eq_true h, Bool.true_and]
  rfl
 · rw [if_neg h, decide_eq_false h, Bool.false_and]
theorem netR_bd {pubs : List PublicV} {o f u : Int} {t : SpanV} (h : netR pubs o f u = some t) : SpI t := by
 unfold netR sumR at h
 split at h
 ·
  split at h
  · exact sumN_bd h
  · cases h
 · cases h
theorem sumR_bd {pubs : List PublicV} {o f u : Int} {t : SpanV} (h : sumR pubs o f u = some t) : SpI t := by
 unfold sumR at h
 split at h
 · exact sumN_bd h
 · cases h
theorem rpair (x : BsX) (ar : Option Addr) (cr : Nat) (err : Int) (room ps : List Int) (pubs : List PublicV) (aq : Option Addr) (nq : Nat) (o why : Int) (c d : CV) (w : World) (hQ : LArg RPublic 4 (.slice aq pubs.length nq) pubs w) (hl : pubs.length ≤ 1000) (hI : ∀ p ∈ pubs, PbI p) (he : 0 ≤ err ∧ err ≤ 1099511627776) (ho : 0 ≤ o ∧ o < 3) (hc : CNum c ∧ (0 ≤ c.office ∧ c.office < 3) ∧ 0 ≤ c.hour ∧ c.hour ≤ 16777216) (hd : CNum d ∧ (0 ≤ d.office ∧ d.office < 3) ∧ 0 ≤ d.hour ∧ d.hour ≤ 16777216) : Calls Tryz.prog 39 #[.agg #[x.nm, .slice x.a1 x.n1 x.c1, x.k, .slice x.a3 x.n3 x.c3, .slice x.a4 x.n4 x.c4, .slice x.a5 x.n5 x.c5, .slice x.a6 x.n6 x.c6, .slice x.a7 x.n7 x.c7, .slice x.a8 x.n8 x.c8, .slice ar 3 cr, err], .slice aq pubs.length nq, o, .int .i64 why, .agg #[c.office, c.hour, c.inn, c.out, c.store, c.prev, c.e, c.s], .agg #[d.office, d.hour, d.inn, d.out, d.store, d.prev, d.e, d.s]] w (RetB (pairB (judgeV err room ps pubs) o why c d) w) := by
 unfold CNum at hc hd; have W1 : IntKind.i64.wrap (d.out - c.out) = d.out - c.out := IntWalk.i64_in _ (by omega); have W2 : IntKind.i64.wrap (2 * err) = 2 * err := IntWalk.i64_in _ (by omega); have W3 : IntKind.i64.wrap (6 * err) = 6 * err := IntWalk.i64_in _ (by omega); have W4 : IntKind.i64.wrap (d.store - c.store) = d.store - c.store := IntWalk.i64_in _ (by omega); have W5 : IntKind.i64.wrap (d.inn - c.inn) = d.inn - c.inn := IntWalk.i64_in _ (by omega); have W6 : IntKind.i64.wrap (d.store - c.store - (d.inn - c.inn)) = d.store - c.store - (d.inn - c.inn) := IntWalk.i64_in _ (by omega); have W7 : IntKind.i64.wrap (d.store - c.store - (d.inn - c.inn) + (d.out - c.out)) = d.store - c.store - (d.inn - c.inn) + (d.out - c.out) := IntWalk.i64_in _ (by omega); have HW6 : Hid (0 ≤ 6 * err ∧ 6 * err ≤ 1152921504606846976) := hD (by omega); have HW2 : Hid (0 ≤ 2 * err ∧ 2 * err ≤ 1152921504606846976) := hD (by omega); have HC1 : Hid (I64 c.hour) := hD (by unfold I64; omega); have HD1 : Hid (I64 d.hour) := hD (by unfold I64; omega); have HO3 := hD ho; have HL := hD hl; have HI := hD hI; have HQ := hD hQ; obtain ⟨RR, hRR⟩ : ∃ RR, RR = (pairB (judgeV err room ps pubs) o why c d) := ⟨_, rfl⟩; rw [← hRR]; have HRR := hD hRR; obtain ⟨w0, hw0, hR0⟩ := RowsS.threeE w (.cells #[x.nm, .slice x.a1 x.n1 x.c1, x.k, .slice x.a3 x.n3 x.c3, .slice x.a4 x.n4 x.c4, .slice x.a5 x.n5 x.c5, .slice x.a6 x.n6 x.c6, .slice x.a7 x.n7 x.c7, .slice x.a8 x.n8 x.c8, .slice ar 3 cr, err] 31) (.cells #[c.office, c.hour, c.inn, c.out, c.store, c.prev, c.e, c.s] 63) (.cells #[d.office, d.hour, d.inn, d.out, d.store, d.prev, d.e, d.s] 63)
 have HR := hD hR0; have HW0 := hD hw0; clear hR0 hw0; clear hRR he hc hd ho hQ hl hI; go_enter Tryz.func39, Tryz.ntmps39; go_upto_region 1 with fail; rw [HW0.out]; have c0 := HR.out.cell 1 0 rfl rfl; have d0 := HR.out.cell 2 0 rfl rfl; have b10 := HR.out.cell 0 10 rfl rfl; have c1 := HR.out.cell 1 1 rfl rfl; have c2 := HR.out.cell 1 2 rfl rfl; have c3 := HR.out.cell 1 3 rfl rfl; have c4 := HR.out.cell 1 4 rfl rfl; have d1 := HR.out.cell 2 1 rfl rfl; have d2 := HR.out.cell 2 2 rfl rfl; have d3 := HR.out.cell 2 3 rfl rfl; have d4 := HR.out.cell 2 4 rfl rfl; by_cases h1 : c.office = o
 ·
  have q1a : (c.office == o) = true := by rw [beq_iff_eq]; exact h1
  have q1b : decide (c.office = o) = true := decide_eq_true h1; have q1c : (c.office != o) = false := by rw [bne, q1a]; rfl
  have H1 := hD h1; clear h1; by_cases h2 : d.office = o
  ·
   have q2a : (d.office == o) = true := by rw [beq_iff_eq]; exact h2
   have q2b : decide (d.office = o) = true := decide_eq_true h2; have q2c : (d.office != o) = false := by rw [bne, q2a]; rfl
   have H2 := hD h2; clear h2; by_cases h6 : why = 0
   ·
    have q6a : (why == 0) = true := by rw [beq_iff_eq]; exact h6
    have q6b : decide (why = 0) = true := decide_eq_true h6; have q6c : (why != 0) = false := by rw [bne, q6a]; rfl
    have H6 := hD h6; clear h6; by_cases h4 : c.hour = d.hour
    ·
     have q4a : (c.hour == d.hour) = true := by rw [beq_iff_eq]; exact h4
     have q4b : decide (c.hour = d.hour) = true := decide_eq_true h4; have q4c : (c.hour != d.hour) = false := by rw [bne, q4a]; rfl
     have H4 := hD h4; clear h4
     cases hn : decide (c ≠ d) with
     | false =>
      have HNE : Hid (decide (c ≠ d) = false) := hD hn; have HT : Hid (RR = false) := hD (by rw [HRR.out]; unfold pairB forkB; rw [hn]; simp [*]); clear hn; go_wp2_with (first | (refine lRW (HR.out.row 1 rfl) undCm infoCm ?_) | (refine lRW (HR.out.row 2 rfl) undCm infoCm ?_) | (refine wpList_neqV (by first | (go_simp; done) | rfl) rfl _ ((neqC c d rfl rfl rfl).trans (by rw [HNE.out])) ?_)); go_ret; exact retB_mk HT.out HR.out.below
     | true =>
      have HNE : Hid (decide (c ≠ d) = true) := hD hn; have HT : Hid (RR = true) := hD (by rw [HRR.out]; unfold pairB forkB; rw [hn]; simp [*]); clear hn; go_wp2_with (first | (refine lRW (HR.out.row 1 rfl) undCm infoCm ?_) | (refine lRW (HR.out.row 2 rfl) undCm infoCm ?_) | (refine wpList_neqV (by first | (go_simp; done) | rfl) rfl _ ((neqC c d rfl rfl rfl).trans (by rw [HNE.out])) ?_)); go_ret; exact retB_mk HT.out HR.out.below
    ·
     have q4a : (c.hour == d.hour) = false := by rw [beq_eq_false_iff_ne]; exact h4
     have q4b : decide (c.hour = d.hour) = false := decide_eq_false h4; have q4c : (c.hour != d.hour) = true := by rw [bne, q4a]; rfl
     have H4 := hD h4; clear h4; have HT : Hid (RR = false) := hD (by rw [HRR.out]; unfold pairB; unfold forkB; simp [*]); go_wp2_with fail; go_ret; exact retB_mk HT.out HR.out.below
   ·
    have q6a : (why == 0) = false := by rw [beq_eq_false_iff_ne]; exact h6
    have q6b : decide (why = 0) = false := decide_eq_false h6; have q6c : (why != 0) = true := by rw [bne, q6a]; rfl
    have H6 := hD h6; clear h6; by_cases h8 : why = 1
    ·
     have q8a : (why == 1) = true := by rw [beq_iff_eq]; exact h8
     have q8b : decide (why = 1) = true := decide_eq_true h8; have q8c : (why != 1) = false := by rw [bne, q8a]; rfl
     have H8 := hD h8; clear h8; go_upto_region 7 with fail; go_wp2_with fail; refine (rnet pubs aq nq o c.hour d.hour _ (HQ.out.below stays_Public HR.out.below) HL.out HC1.out HD1.out HI.out).mono ?_; rintro e w1 ⟨rfl, hb⟩; have HR1 := hD (HR.out.step hb); clear hb; obtain ⟨r, hr⟩ : ∃ r, r = netR pubs o c.hour d.hour := ⟨_, rfl⟩; rw [← hr]; have HEQ : Hid (RR = (decide (c.hour < d.hour) && overB r (d.store - c.store - (d.inn - c.inn) + (d.out - c.out)) (6 * err))) := hD (by rw [HRR.out]; unfold pairB; rw [if_neg H6.out, if_pos H8.out, balB_is HO3.out]; rw [hr, q1b, q2b]; rfl); have HBD : Hid (∀ t, r = some t → SpI t) := hD (fun t ht => netR_bd (hr.symm.trans ht)); clear hr; have HA := hD (HR1.out.alloc (.cells #[(), ()] 53))
     cases r with
     | none =>
      dsimp only [Option.getD, Option.isSome]; go_upto_region 8 with (refine sRW #[(), ()] (HA.out.row 3 rfl) infoSp ?_); have HB2 := hD (HA.out.set (i := 3) (cs' := #[(), ()]) rfl); generalize (w1.alloc (.cells #[(), ()] 53)).setRow w1.heap.size #[.int .i64 0, .int .i64 0] = w2 at *; generalize w1.heap.size = bS at *; clear HA HR1 HR; clear b10 c1 c2 c3 c4 d1 d2 d3 d4; have b10 := HB2.out.cell 0 10 rfl rfl; have c1 := HB2.out.cell 1 1 rfl rfl; have c2 := HB2.out.cell 1 2 rfl rfl; have c3 := HB2.out.cell 1 3 rfl rfl; have c4 := HB2.out.cell 1 4 rfl rfl; have d1 := HB2.out.cell 2 1 rfl rfl; have d2 := HB2.out.cell 2 2 rfl rfl; have d3 := HB2.out.cell 2 3 rfl rfl; have d4 := HB2.out.cell 2 4 rfl rfl; by_cases h5 : c.hour < d.hour
      ·
       have q5b : decide (c.hour < d.hour) = true := decide_eq_true h5; have H5 := hD h5; clear h5; have HT : Hid (RR = false) := hD (by rw [HEQ.out]; simp only [overB, Bool.and_false]); go_wp2_with fail; go_ret; exact retB_mk HT.out HB2.out.below
      ·
       have q5b : decide (c.hour < d.hour) = false := decide_eq_false h5; have H5 := hD h5; clear h5; have HT : Hid (RR = false) := hD (by rw [HEQ.out, q5b]; rfl); go_wp2_with fail; go_ret; exact retB_mk HT.out HB2.out.below
     | some t =>
      dsimp only [Option.getD, Option.isSome]; go_upto_region 8 with (refine sRW #[t.lo, t.hi] (HA.out.row 3 rfl) infoSp ?_); have HB2 := hD (HA.out.set (i := 3) (cs' := #[t.lo, t.hi]) rfl); generalize (w1.alloc (.cells #[(), ()] 53)).setRow w1.heap.size #[.int .i64 t.lo, .int .i64 t.hi] = w2 at *; generalize w1.heap.size = bS at *; clear HA HR1 HR; clear b10 c1 c2 c3 c4 d1 d2 d3 d4; have b10 := HB2.out.cell 0 10 rfl rfl; have c1 := HB2.out.cell 1 1 rfl rfl; have c2 := HB2.out.cell 1 2 rfl rfl; have c3 := HB2.out.cell 1 3 rfl rfl; have c4 := HB2.out.cell 1 4 rfl rfl; have d1 := HB2.out.cell 2 1 rfl rfl; have d2 := HB2.out.cell 2 2 rfl rfl; have d3 := HB2.out.cell 2 3 rfl rfl; have d4 := HB2.out.cell 2 4 rfl rfl; have HSP := hD (HBD.out t rfl); by_cases h5 : c.hour < d.hour
      ·
       have q5b : decide (c.hour < d.hour) = true := decide_eq_true h5; have H5 := hD h5; clear h5; have HT : Hid (RR = beyondB (d.store - c.store - (d.inn - c.inn) + (d.out - c.out)) t (6 * err)) := hD (by rw [HEQ.out, q5b]; rfl); go_wp2_with (refine lRW (HB2.out.row 3 rfl) undSp infoSp ?_); refine (outside_any _ _ t _ HSP.out HW6.out).mono ?_; rintro e w3 ⟨rfl, hb⟩; have HR3 := hD (HB2.out.step hb); clear hb; go_wp2_with fail; go_ret; exact retB_mk HT.out HR3.out.below
      ·
       have q5b : decide (c.hour < d.hour) = false := decide_eq_false h5; have H5 := hD h5; clear h5; have HT : Hid (RR = false) := hD (by rw [HEQ.out, q5b]; rfl); go_wp2_with fail; go_ret; exact retB_mk HT.out HB2.out.below
    ·
     have q8a : (why == 1) = false := by rw [beq_eq_false_iff_ne]; exact h8
     have q8b : decide (why = 1) = false := decide_eq_false h8; have q8c : (why != 1) = true := by rw [bne, q8a]; rfl
     have H8 := hD h8; clear h8; by_cases h9 : why = 3
     ·
      have q9a : (why == 3) = true := by rw [beq_iff_eq]; exact h9
      have q9b : decide (why = 3) = true := decide_eq_true h9; have q9c : (why != 3) = false := by rw [bne, q9a]; rfl
      have H9 := hD h9; clear h9; by_cases h7 : o = 2
      ·
       have q7a : (o == 2) = true := by rw [beq_iff_eq]; exact h7
       have q7b : decide (o = 2) = true := decide_eq_true h7; have q7c : (o != 2) = false := by rw [bne, q7a]; rfl
       have H7 := hD h7; clear h7; go_upto_region 11 with fail; go_wp2_with fail; refine (sum46_any pubs aq nq 3 c.hour d.hour _ (HQ.out.below stays_Public HR.out.below) HL.out (by omega) HC1.out HD1.out HI.out).mono ?_; rintro e w1 ⟨rfl, hb⟩; have HR1 := hD (HR.out.step hb); clear hb; obtain ⟨r, hr⟩ : ∃ r, r = sumR pubs 3 c.hour d.hour := ⟨_, rfl⟩; rw [← hr]; have HEQ : Hid (RR = (decide (o = 2) && (decide (c.hour < d.hour) && overB r (d.out - c.out) (2 * err)))) := hD (by rw [HRR.out]; unfold pairB; rw [if_neg H6.out, if_neg H8.out, if_pos H9.out, mouB_is]; rw [hr, q1b, q2b]; rfl); have HBD : Hid (∀ t, r = some t → SpI t) := hD (fun t ht => sumR_bd (hr.symm.trans ht)); clear hr; have HA := hD (HR1.out.alloc (.cells #[(), ()] 53))
       cases r with
       | none =>
        dsimp only [Option.getD, Option.isSome]; go_upto_region 12 with (refine sRW #[(), ()] (HA.out.row 3 rfl) infoSp ?_); have HB2 := hD (HA.out.set (i := 3) (cs' := #[(), ()]) rfl); generalize (w1.alloc (.cells #[(), ()] 53)).setRow w1.heap.size #[.int .i64 0, .int .i64 0] = w2 at *; generalize w1.heap.size = bS at *; clear HA HR1 HR; clear b10 c1 c2 c3 c4 d1 d2 d3 d4; have b10 := HB2.out.cell 0 10 rfl rfl; have c1 := HB2.out.cell 1 1 rfl rfl; have c2 := HB2.out.cell 1 2 rfl rfl; have c3 := HB2.out.cell 1 3 rfl rfl; have c4 := HB2.out.cell 1 4 rfl rfl; have d1 := HB2.out.cell 2 1 rfl rfl; have d2 := HB2.out.cell 2 2 rfl rfl; have d3 := HB2.out.cell 2 3 rfl rfl; have d4 := HB2.out.cell 2 4 rfl rfl; by_cases h5 : c.hour < d.hour
        ·
         have q5b : decide (c.hour < d.hour) = true := decide_eq_true h5; have H5 := hD h5; clear h5; have HT : Hid (RR = false) := hD (by rw [HEQ.out]; simp only [overB, Bool.and_false]); go_wp2_with fail; go_ret; exact retB_mk HT.out HB2.out.below
        ·
         have q5b : decide (c.hour < d.hour) = false := decide_eq_false h5; have H5 := hD h5; clear h5; have HT : Hid (RR = false) := hD (by rw [HEQ.out, q7b, q5b]; rfl); go_wp2_with fail; go_ret; exact retB_mk HT.out HB2.out.below
       | some t =>
        dsimp only [Option.getD, Option.isSome]; go_upto_region 12 with (refine sRW #[t.lo, t.hi] (HA.out.row 3 rfl) infoSp ?_); have HB2 := hD (HA.out.set (i := 3) (cs' := #[t.lo, t.hi]) rfl); generalize (w1.alloc (.cells #[(), ()] 53)).setRow w1.heap.size #[.int .i64 t.lo, .int .i64 t.hi] = w2 at *; generalize w1.heap.size = bS at *; clear HA HR1 HR; clear b10 c1 c2 c3 c4 d1 d2 d3 d4; have b10 := HB2.out.cell 0 10 rfl rfl; have c1 := HB2.out.cell 1 1 rfl rfl; have c2 := HB2.out.cell 1 2 rfl rfl; have c3 := HB2.out.cell 1 3 rfl rfl; have c4 := HB2.out.cell 1 4 rfl rfl; have d1 := HB2.out.cell 2 1 rfl rfl; have d2 := HB2.out.cell 2 2 rfl rfl; have d3 := HB2.out.cell 2 3 rfl rfl; have d4 := HB2.out.cell 2 4 rfl rfl; have HSP := hD (HBD.out t rfl); by_cases h5 : c.hour < d.hour
        ·
         have q5b : decide (c.hour < d.hour) = true := decide_eq_true h5; have H5 := hD h5; clear h5; have HT : Hid (RR = beyondB (d.out - c.out) t (2 * err)) := hD (by rw [HEQ.out, q7b, q5b]; rfl); go_wp2_with (refine lRW (HB2.out.row 3 rfl) undSp infoSp ?_); refine (outside_any _ _ t _ HSP.out HW2.out).mono ?_; rintro e w3 ⟨rfl, hb⟩; have HR3 := hD (HB2.out.step hb); clear hb; go_wp2_with fail; go_ret; exact retB_mk HT.out HR3.out.below
        ·
         have q5b : decide (c.hour < d.hour) = false := decide_eq_false h5; have H5 := hD h5; clear h5; have HT : Hid (RR = false) := hD (by rw [HEQ.out, q7b, q5b]; rfl); go_wp2_with fail; go_ret; exact retB_mk HT.out HB2.out.below
      ·
       have q7a : (o == 2) = false := by rw [beq_eq_false_iff_ne]; exact h7
       have q7b : decide (o = 2) = false := decide_eq_false h7; have q7c : (o != 2) = true := by rw [bne, q7a]; rfl
       have H7 := hD h7; clear h7; go_upto_region 11 with fail; go_wp2_with fail; refine (sum46_any pubs aq nq 3 c.hour d.hour _ (HQ.out.below stays_Public HR.out.below) HL.out (by omega) HC1.out HD1.out HI.out).mono ?_; rintro e w1 ⟨rfl, hb⟩; have HR1 := hD (HR.out.step hb); clear hb; obtain ⟨r, hr⟩ : ∃ r, r = sumR pubs 3 c.hour d.hour := ⟨_, rfl⟩; rw [← hr]; have HEQ : Hid (RR = (decide (o = 2) && (decide (c.hour < d.hour) && overB r (d.out - c.out) (2 * err)))) := hD (by rw [HRR.out]; unfold pairB; rw [if_neg H6.out, if_neg H8.out, if_pos H9.out, mouB_is]; rw [hr, q1b, q2b]; rfl); have HBD : Hid (∀ t, r = some t → SpI t) := hD (fun t ht => sumR_bd (hr.symm.trans ht)); clear hr; have HA := hD (HR1.out.alloc (.cells #[(), ()] 53)); have HT : Hid (RR = false) := hD (by rw [HEQ.out, q7b]; rfl)
       cases r with
       | none =>
        dsimp only [Option.getD, Option.isSome]; go_upto_region 12 with (refine sRW #[(), ()] (HA.out.row 3 rfl) infoSp ?_); have HB2 := hD (HA.out.set (i := 3) (cs' := #[(), ()]) rfl); generalize (w1.alloc (.cells #[(), ()] 53)).setRow w1.heap.size #[.int .i64 0, .int .i64 0] = w2 at *; generalize w1.heap.size = bS at *; clear HA HR1 HR; go_wp2_with fail; go_ret; exact retB_mk HT.out HB2.out.below
       | some t =>
        dsimp only [Option.getD, Option.isSome]; go_upto_region 12 with (refine sRW #[t.lo, t.hi] (HA.out.row 3 rfl) infoSp ?_); have HB2 := hD (HA.out.set (i := 3) (cs' := #[t.lo, t.hi]) rfl); generalize (w1.alloc (.cells #[(), ()] 53)).setRow w1.heap.size #[.int .i64 t.lo, .int .i64 t.hi] = w2 at *; generalize w1.heap.size = bS at *; clear HA HR1 HR; go_wp2_with fail; go_ret; exact retB_mk HT.out HB2.out.below
     ·
      have q9a : (why == 3) = false := by rw [beq_eq_false_iff_ne]; exact h9
      have q9b : decide (why = 3) = false := decide_eq_false h9; have q9c : (why != 3) = true := by rw [bne, q9a]; rfl
      have H9 := hD h9; clear h9; have HT : Hid (RR = false) := hD (by rw [HRR.out]; unfold pairB; simp [*]); go_wp2_with fail; go_ret; exact retB_mk HT.out HR.out.below
  ·
   have q2a : (d.office == o) = false := by rw [beq_eq_false_iff_ne]; exact h2
   have q2b : decide (d.office = o) = false := decide_eq_false h2; have q2c : (d.office != o) = true := by rw [bne, q2a]; rfl
   have H2 := hD h2; clear h2; have HT : Hid (RR = false) := hD (by rw [HRR.out]; unfold pairB; simp [*]); go_wp2_with fail; go_ret; exact retB_mk HT.out HR.out.below
 ·
  have q1a : (c.office == o) = false := by rw [beq_eq_false_iff_ne]; exact h1
  have q1b : decide (c.office = o) = false := decide_eq_false h1; have q1c : (c.office != o) = true := by rw [bne, q1a]; rfl
  have H1 := hD h1; clear h1; have HT : Hid (RR = false) := hD (by rw [HRR.out]; unfold pairB; simp [*]); go_wp2_with fail; go_ret; exact retB_mk HT.out HR.out.below
end Go.Proofs.YtjbjpkhibcnenaaGreatDoor
/- The reference of package audit: two, neighbours. -/
namespace Go.Proofs.YtjbjpkhibcnenaaGreatDoor
set_option maxRecDepth 100000
set_option maxHeartbeats 16000000
open Go.RowKit
def pL (r : Option (CV × CV)) : List CV := match r with | some (c, d) => [c, d] | none => []
def RetC (L : List CV) (w : World) (e : Ending) (w' : World) : Prop := (∃ v, e = .returned v ∧ w'.ownsRow w.heap.size 63 8 v L.length (flC L) ∧ (∀ x ∈ L, CGood x)) ∧ Below w.heap.size w w'
theorem own_rowC {L : List CV} {g base : Nat} {w : World} (hg : base ≤ g) (hr : w.heap[g]? = some (.cells (flC L).toArray 63 (0, 0))) (hl : L.length ≤ 1000) : w.ownsRow base 63 8 (.slice (some ⟨g, 0, none⟩) L.length L.length) L.length (flC L) :=
 ⟨flC_len _, Or.inr ⟨g, L.length, _, rfl, hg, hr, Nat.le_refl _, by unfold maxLen; omega, by rw [List.size_toArray, flC_len], List.take_of_length_le (by simp [flC_len])⟩⟩
theorem retC_nil {L : List CV} {w w' : World} (h : L = []) (hb : Below w.heap.size w w') : RetC L w (.returned (.slice none 0 0)) w' := by
 subst h; exact ⟨⟨_, rfl, ⟨rfl, Or.inl ⟨rfl, rfl⟩⟩, fun x hx => by simp at hx⟩, hb⟩
theorem retC_two {L : List CV} {c d : CV} {g : Nat} {w w' : World} (h : L = [c, d]) (hg : w.heap.size ≤ g) (hr : w'.heap[g]? = some (.cells (flC [c, d]).toArray 63 (0, 0))) (hx : ∀ x ∈ [c, d], CGood x) (hb : Below w.heap.size w w') : RetC L w (.returned (.slice (some ⟨g, 0, none⟩) 2 2)) w' := by
 subst h; exact ⟨⟨_, rfl, own_rowC hg hr (by simp), hx⟩, hb⟩
theorem retC_one {L : List CV} {c : CV} {g : Nat} {w w' : World} (h : L = [c]) (hg : w.heap.size ≤ g) (hr : w'.heap[g]? = some (.cells (flC [c]).toArray 63 (0, 0))) (hx : CGood c) (hb : Below w.heap.size w w') : RetC L w (.returned (.slice (some ⟨g, 0, none⟩) 1 1)) w' := by
 subst h; exact ⟨⟨_, rfl, own_rowC hg hr (by simp), fun x hx' => by simp only [List.mem_cons, List.not_mem_nil, or_false] at hx'; rw [hx']; exact hx⟩, hb⟩
theorem rtwo (x : BsX) (ar : Option Addr) (cr : Nat) (err : Int) (room ps : List Int) (pubs : List PublicV) (aq : Option Addr) (nq : Nat) (o why : Int) (l : List CV) (al : Option Addr) (nl : Nat) (w : World) (hl : LArg RC 8 (.slice al l.length nl) l w) (hll : l.length ≤ 1000) (hQ : LArg RPublic 4 (.slice aq pubs.length nq) pubs w) (hpl : pubs.length ≤ 1000) (hI : ∀ p ∈ pubs, PbI p) (he : 0 ≤ err ∧ err ≤ 1099511627776) (ho : 0 ≤ o ∧ o < 3) (hk : ∀ c ∈ l, CNum c ∧ (0 ≤ c.office ∧ c.office < 3) ∧ 0 ≤ c.hour ∧ c.hour ≤ 16777216) : Calls Tryz.prog 74 #[.agg #[x.nm, .slice x.a1 x.n1 x.c1, x.k, .slice x.a3 x.n3 x.c3, .slice x.a4 x.n4 x.c4, .slice x.a5 x.n5 x.c5, .slice x.a6 x.n6 x.c6, .slice x.a7 x.n7 x.c7, .slice x.a8 x.n8 x.c8, .slice ar 3 cr, err], .slice aq pubs.length nq, .slice al l.length nl, o, .int .i64 why] w (RetC (pL (first2 (pairB (judgeV err room ps pubs) o why) l l)) w) := by
 obtain ⟨PP, hPP⟩ : ∃ PP : CV → CV → Bool, PP = (pairB (judgeV err room ps pubs) o why) := ⟨_, rfl⟩
 have HP : Hid (∀ (w0 : World), Below w.heap.size w w0 → ∀ c ∈ l, ∀ d ∈ l, Calls Tryz.prog 39 #[.agg #[x.nm, .slice x.a1 x.n1 x.c1, x.k, .slice x.a3 x.n3 x.c3, .slice x.a4 x.n4 x.c4, .slice x.a5 x.n5 x.c5, .slice x.a6 x.n6 x.c6, .slice x.a7 x.n7 x.c7, .slice x.a8 x.n8 x.c8, .slice ar 3 cr, err], .slice aq pubs.length nq, o, .int .i64 why, .agg #[c.office, c.hour, c.inn, c.out, c.store, c.prev, c.e, c.s], .agg #[d.office, d.hour, d.inn, d.out, d.store, d.prev, d.e, d.s]] w0 (RetB (PP c d) w0)) := hD (fun w0 hb c hc d hd => by
  rw [hPP]
  exact rpair x ar cr err room ps pubs aq nq o why c d w0 (hQ.below stays_Public hb) hpl hI he ho (hk c hc) (hk d hd))
 rw [← hPP]; have HL := hD hl; have HR : Hid (RowsS w [(w.heap.size, .cells #[x.nm, .slice x.a1 x.n1 x.c1, x.k, .slice x.a3 x.n3 x.c3, .slice x.a4 x.n4 x.c4, .slice x.a5 x.n5 x.c5, .slice x.a6 x.n6 x.c6, .slice x.a7 x.n7 x.c7, .slice x.a8 x.n8 x.c8, .slice ar 3 cr, err] 31)] (w.alloc (.cells #[x.nm, .slice x.a1 x.n1 x.c1, x.k, .slice x.a3 x.n3 x.c3, .slice x.a4 x.n4 x.c4, .slice x.a5 x.n5 x.c5, .slice x.a6 x.n6 x.c6, .slice x.a7 x.n7 x.c7, .slice x.a8 x.n8 x.c8, .slice ar 3 cr, err] 31))) := hD ((RowsS.nil w).alloc (.cells #[x.nm, .slice x.a1 x.n1 x.c1, x.k, .slice x.a3 x.n3 x.c3, .slice x.a4 x.n4 x.c4, .slice x.a5 x.n5 x.c5, .slice x.a6 x.n6 x.c6, .slice x.a7 x.n7 x.c7, .slice x.a8 x.n8 x.c8, .slice ar 3 cr, err] 31)); clear hl hPP hk hQ hpl hI he ho; go_enter Tryz.func74, Tryz.ntmps74; go_upto_region 1 with fail; generalize (w.alloc (.cells #[x.nm, .slice x.a1 x.n1 x.c1, x.k, .slice x.a3 x.n3 x.c3, .slice x.a4 x.n4 x.c4, .slice x.a5 x.n5 x.c5, .slice x.a6 x.n6 x.c6, .slice x.a7 x.n7 x.c7, .slice x.a8 x.n8 x.c8, .slice ar 3 cr, err] 31)) = w0 at *; go_wp2_with fail; go_loopw [11] (fun iv wx => ∃ k : Nat, k ≤ l.length ∧ iv = .int .i64 k ∧ (∀ (i : Nat) (x : CV), i < k → l[i]? = some x → ∀ y ∈ l, PP x y = false) ∧ RowsS w [(w.heap.size, .cells #[x.nm, .slice x.a1 x.n1 x.c1, x.k, .slice x.a3 x.n3 x.c3, .slice x.a4 x.n4 x.c4, .slice x.a5 x.n5 x.c5, .slice x.a6 x.n6 x.c6, .slice x.a7 x.n7 x.c7, .slice x.a8 x.n8 x.c8, .slice ar 3 cr, err] 31)] wx) (fun iv _ => l.length - (Go.RowKit.intOf iv).toNat)
 case atStart => exact ⟨0, Nat.zero_le _, rfl, fun i x h => absurd h (Nat.not_lt_zero _), HR.out⟩
 case round =>
  obtain ⟨k, hk, rfl, hno, hr⟩ := hrel; have HNO := hD hno; have HR1 := hD hr; clear hno hr HR; by_cases hlt : k < l.length
  ·
   obtain ⟨c, hc⟩ : ∃ c, l[k]? = some c := ⟨_, List.getElem?_eq_getElem hlt⟩; obtain ⟨b, o1, cs, rfl, hbl, -, hrg, hcs, hcg⟩ := HL.out.at hc; unfold cellsC at hcs; subst hcs; have HRG1 := hD hrg; have HCG := hD hcg; have HC := hD hc; clear hc hrg hcg; go_upto_region 4 with fail; go_wp2_with fail; go_loopw [12] (fun iv wx => ∃ j : Nat, j ≤ l.length ∧ iv = .int .i64 j ∧ (∀ (i : Nat) (y : CV), i < j → l[i]? = some y → PP c y = false) ∧ RowsS w [(w.heap.size, .cells #[x.nm, .slice x.a1 x.n1 x.c1, x.k, .slice x.a3 x.n3 x.c3, .slice x.a4 x.n4 x.c4, .slice x.a5 x.n5 x.c5, .slice x.a6 x.n6 x.c6, .slice x.a7 x.n7 x.c7, .slice x.a8 x.n8 x.c8, .slice ar 3 cr, err] 31)] wx) (fun iv _ => l.length - (Go.RowKit.intOf iv).toNat)
   case atStart => exact ⟨0, Nat.zero_le _, rfl, fun i x h => absurd h (Nat.not_lt_zero _), HR1.out⟩
   case round =>
    obtain ⟨j, hj, rfl, hnd, hr⟩ := hrel; have HND := hD hnd; have HR3 := hD hr; clear hnd hr HR1; by_cases hlj : j < l.length
    ·
     obtain ⟨d, hd⟩ : ∃ d, l[j]? = some d := ⟨_, List.getElem?_eq_getElem hlj⟩; obtain ⟨b2, o2, cs, ha, hbm, -, hrg, hcs, hdg⟩ := HL.out.at hd; simp only [Option.some.injEq, Addr.mk.injEq, and_true] at ha; obtain ⟨rfl, rfl⟩ := ha; unfold cellsC at hcs; subst hcs; have HRG2 := hD hrg; have HDG := hD hdg; have HD := hD hd; have HPc : Hid (∀ w0, Below w.heap.size w w0 → Calls Tryz.prog 39 #[.agg #[x.nm, .slice x.a1 x.n1 x.c1, x.k, .slice x.a3 x.n3 x.c3, .slice x.a4 x.n4 x.c4, .slice x.a5 x.n5 x.c5, .slice x.a6 x.n6 x.c6, .slice x.a7 x.n7 x.c7, .slice x.a8 x.n8 x.c8, .slice ar 3 cr, err], .slice aq pubs.length nq, o, .int .i64 why, .agg #[c.office, c.hour, c.inn, c.out, c.store, c.prev, c.e, c.s], .agg #[d.office, d.hour, d.inn, d.out, d.store, d.prev, d.e, d.s]] w0 (RetB (PP c d) w0)) := hD (fun w0 hb => HP.out _ hb c (List.mem_of_getElem? HC.out) d (List.mem_of_getElem? hd)); obtain ⟨q, hq⟩ : ∃ q, q = PP c d := ⟨_, rfl⟩; rw [← hq] at HPc; clear hd hrg hdg; go_upto_region 7 with fail; refine wrd (S := RowsS w _) (HR3.out.drew) (fun yH => ?_); refine tn 0 ?_ (hx := ldw 0 undBn infoBn); refine tn 1 ?_; refine tn 2 ?_; refine tn 3 ?_; refine tn 4 ?_; refine tn 5 ?_; refine tn 6 ?_; refine tn 7 ?_ (hx := ldr HRG1 hbl undCm infoCm); refine tn 8 ?_; refine tn 9 ?_; refine tn 10 ?_; refine tn 11 ?_ (hx := ldr HRG2 hbl undCm infoCm); refine rd1 12 (fun K hK => ?_); go_simp; refine (HPc.out _ yH.below).mono ?_; rintro e w' ⟨rfl, hb⟩; refine hK.out _ _ (yH.step hb) (fun yH => ?_); clear hK K
     refine rdn ?_; have HR5 := hD yH; clear yH HR3 HPc; rw [hq]; clear hq
     cases hpp : PP c d with
     | true =>
      have HF := hD (first2_found HNO.out HC.out HND.out HD.out hpp); clear hpp; go_upto_region 8 with fail; refine wrd (S := RowsS w _) (HR5.out.drew) (fun yH => ?_); refine tn 0 ?_; refine tn 1 ?_; refine tn 2 ?_; refine tn 3 ?_ (hx := ldr HRG1 hbl undCm infoCm); refine tn 4 ?_; refine tn 5 ?_; refine tn 6 ?_; refine tn 7 ?_ (hx := ldr HRG2 hbl undCm infoCm); refine rd1 8 (fun K hK => ?_); go_simp; obtain ⟨bl, hbe, hS1, hZL, hgL, hnL, hbA⟩ := yH.allocBD (.cells #[c.office, c.hour, c.inn, c.out, c.store, c.prev, c.e, c.s, d.office, d.hour, d.inn, d.out, d.store, d.prev, d.e, d.s] 63); (try simp only [World.alloc, Array.size_push] at hbe); rw [← hbe]; refine hK.out _ _ hS1 (fun yH => ?_); clear hK K hS1 hbe hbA; refine tn 9 ?_; refine rdn ?_; go_wp2_with fail; go_ret; exact retC_two (by rw [HF.out]; rfl) hgL hZL (by intro x hx; simp only [List.mem_cons, List.not_mem_nil, or_false] at hx; rcases hx with rfl | rfl <;> first | exact HCG.out | exact HDG.out) yH.below
     | false =>
      have HN2 : Hid (∀ (i : Nat) (y : CV), i < j + 1 → l[i]? = some y → PP c y = false) := hD (fun i y hi hy => by
       by_cases e : i = j
       · subst e; rw [HD.out] at hy; cases hy; exact hpp
       · exact HND.out i y (by omega) hy)
      clear hpp; go_wp2_with fail; go_roundw
      case rel => exact ⟨j + 1, by omega, by go_num, HN2.out, HR5.out⟩
      case measure => simp [Go.RowKit.intOf]; omega
    ·
     have HN3 : Hid (∀ (i : Nat) (x : CV), i < k + 1 → l[i]? = some x → ∀ y ∈ l, PP x y = false) := hD (fun i x hi hx y hy => by
      by_cases e : i = k
      ·
       subst e; rw [HC.out] at hx
       cases hx
       obtain ⟨q, hq⟩ := List.getElem?_of_mem hy; exact HND.out q y (by have := (List.getElem?_eq_some_iff.1 hq).1; omega) hq
      · exact HNO.out i x (by omega) hx y hy)
     go_wp2_with fail; go_roundw
     case rel => exact ⟨k + 1, by omega, by go_num, HN3.out, HR3.out⟩
     case measure => simp [Go.RowKit.intOf]; omega
  ·
   have HE : Hid (first2 PP l l = none) := hD (first2_none (fun i x hi hx => HNO.out i x (by omega) hx)); go_wp2_with fail; go_ret; exact retC_nil (by rw [HE.out]; rfl) HR1.out.below
def bordB (J : JV) (u : Int) (c d : CV) : Bool := decide (c.office = u) && decide (d.office = u + 1) && disB J c d
theorem rneigh (x : BsX) (ar : Option Addr) (cr : Nat) (err : Int) (room ps : List Int) (pubs : List PublicV) (u : Int) (l : List CV) (al : Option Addr) (nl : Nat) (w : World) (hl : LArg RC 8 (.slice al l.length nl) l w) (hll : l.length ≤ 1000) (he : 0 ≤ err ∧ err ≤ 1099511627776) (hu : 0 ≤ u ∧ u ≤ 3) (hk : ∀ c ∈ l, CNum c ∧ (0 ≤ c.office ∧ c.office < 3) ∧ 0 ≤ c.hour ∧ c.hour ≤ 16777216) : Calls Tryz.prog 73 #[.agg #[x.nm, .slice x.a1 x.n1 x.c1, x.k, .slice x.a3 x.n3 x.c3, .slice x.a4 x.n4 x.c4, .slice x.a5 x.n5 x.c5, .slice x.a6 x.n6 x.c6, .slice x.a7 x.n7 x.c7, .slice x.a8 x.n8 x.c8, .slice ar 3 cr, err], .slice al l.length nl, .int .i64 u] w (RetC (pL (first2 (bordB (judgeV err room ps pubs) u) l l)) w) := by
 obtain ⟨PP, hPP⟩ : ∃ PP : CV → CV → Bool, PP = (bordB (judgeV err room ps pubs) u) := ⟨_, rfl⟩
 have HP : Hid (∀ (w0 : World), Below w.heap.size w w0 → ∀ c ∈ l, ∀ d ∈ l, Calls Tryz.prog 41 #[.agg #[x.nm, .slice x.a1 x.n1 x.c1, x.k, .slice x.a3 x.n3 x.c3, .slice x.a4 x.n4 x.c4, .slice x.a5 x.n5 x.c5, .slice x.a6 x.n6 x.c6, .slice x.a7 x.n7 x.c7, .slice x.a8 x.n8 x.c8, .slice ar 3 cr, err], .int .i64 u, .agg #[c.office, c.hour, c.inn, c.out, c.store, c.prev, c.e, c.s], .agg #[d.office, d.hour, d.inn, d.out, d.store, d.prev, d.e, d.s]] w0 (RetB (PP c d) w0)) := hD (fun w0 hb c hc d hd => by
  rw [hPP]
  exact rborder x ar cr err room ps pubs u c d w0 he hu (hk c hc).1.2.1 (hk d hd).1.1)
 rw [← hPP]; have HL := hD hl; have HR : Hid (RowsS w [(w.heap.size, .cells #[x.nm, .slice x.a1 x.n1 x.c1, x.k, .slice x.a3 x.n3 x.c3, .slice x.a4 x.n4 x.c4, .slice x.a5 x.n5 x.c5, .slice x.a6 x.n6 x.c6, .slice x.a7 x.n7 x.c7, .slice x.a8 x.n8 x.c8, .slice ar 3 cr, err] 31)] (w.alloc (.cells #[x.nm, .slice x.a1 x.n1 x.c1, x.k, .slice x.a3 x.n3 x.c3, .slice x.a4 x.n4 x.c4, .slice x.a5 x.n5 x.c5, .slice x.a6 x.n6 x.c6, .slice x.a7 x.n7 x.c7, .slice x.a8 x.n8 x.c8, .slice ar 3 cr, err] 31))) := hD ((RowsS.nil w).alloc (.cells #[x.nm, .slice x.a1 x.n1 x.c1, x.k, .slice x.a3 x.n3 x.c3, .slice x.a4 x.n4 x.c4, .slice x.a5 x.n5 x.c5, .slice x.a6 x.n6 x.c6, .slice x.a7 x.n7 x.c7, .slice x.a8 x.n8 x.c8, .slice ar 3 cr, err] 31)); clear hl hPP hk he hu; go_enter Tryz.func73, Tryz.ntmps73; go_upto_region 1 with fail; generalize (w.alloc (.cells #[x.nm, .slice x.a1 x.n1 x.c1, x.k, .slice x.a3 x.n3 x.c3, .slice x.a4 x.n4 x.c4, .slice x.a5 x.n5 x.c5, .slice x.a6 x.n6 x.c6, .slice x.a7 x.n7 x.c7, .slice x.a8 x.n8 x.c8, .slice ar 3 cr, err] 31)) = w0 at *; go_wp2_with fail; go_loopw [7] (fun iv wx => ∃ k : Nat, k ≤ l.length ∧ iv = .int .i64 k ∧ (∀ (i : Nat) (x : CV), i < k → l[i]? = some x → ∀ y ∈ l, PP x y = false) ∧ RowsS w [(w.heap.size, .cells #[x.nm, .slice x.a1 x.n1 x.c1, x.k, .slice x.a3 x.n3 x.c3, .slice x.a4 x.n4 x.c4, .slice x.a5 x.n5 x.c5, .slice x.a6 x.n6 x.c6, .slice x.a7 x.n7 x.c7, .slice x.a8 x.n8 x.c8, .slice ar 3 cr, err] 31)] wx) (fun iv _ => l.length - (Go.RowKit.intOf iv).toNat)
 case atStart => exact ⟨0, Nat.zero_le _, rfl, fun i x h => absurd h (Nat.not_lt_zero _), HR.out⟩
 case round =>
  obtain ⟨k, hk, rfl, hno, hr⟩ := hrel; have HNO := hD hno; have HR1 := hD hr; clear hno hr HR; by_cases hlt : k < l.length
  ·
   obtain ⟨c, hc⟩ : ∃ c, l[k]? = some c := ⟨_, List.getElem?_eq_getElem hlt⟩; obtain ⟨b, o1, cs, rfl, hbl, -, hrg, hcs, hcg⟩ := HL.out.at hc; unfold cellsC at hcs; subst hcs; have HRG1 := hD hrg; have HCG := hD hcg; have HC := hD hc; clear hc hrg hcg; go_upto_region 4 with fail; go_wp2_with fail; go_loopw [8] (fun iv wx => ∃ j : Nat, j ≤ l.length ∧ iv = .int .i64 j ∧ (∀ (i : Nat) (y : CV), i < j → l[i]? = some y → PP c y = false) ∧ RowsS w [(w.heap.size, .cells #[x.nm, .slice x.a1 x.n1 x.c1, x.k, .slice x.a3 x.n3 x.c3, .slice x.a4 x.n4 x.c4, .slice x.a5 x.n5 x.c5, .slice x.a6 x.n6 x.c6, .slice x.a7 x.n7 x.c7, .slice x.a8 x.n8 x.c8, .slice ar 3 cr, err] 31)] wx) (fun iv _ => l.length - (Go.RowKit.intOf iv).toNat)
   case atStart => exact ⟨0, Nat.zero_le _, rfl, fun i x h => absurd h (Nat.not_lt_zero _), HR1.out⟩
   case round =>
    obtain ⟨j, hj, rfl, hnd, hr⟩ := hrel; have HND := hD hnd; have HR3 := hD hr; clear hnd hr HR1; by_cases hlj : j < l.length
    ·
     obtain ⟨d, hd⟩ : ∃ d, l[j]? = some d := ⟨_, List.getElem?_eq_getElem hlj⟩; obtain ⟨b2, o2, cs, ha, hbm, -, hrg, hcs, hdg⟩ := HL.out.at hd; simp only [Option.some.injEq, Addr.mk.injEq, and_true] at ha; obtain ⟨rfl, rfl⟩ := ha; unfold cellsC at hcs; subst hcs; have HRG2 := hD hrg; have HDG := hD hdg; have HD := hD hd; have HPc : Hid (∀ w0, Below w.heap.size w w0 → Calls Tryz.prog 41 #[.agg #[x.nm, .slice x.a1 x.n1 x.c1, x.k, .slice x.a3 x.n3 x.c3, .slice x.a4 x.n4 x.c4, .slice x.a5 x.n5 x.c5, .slice x.a6 x.n6 x.c6, .slice x.a7 x.n7 x.c7, .slice x.a8 x.n8 x.c8, .slice ar 3 cr, err], .int .i64 u, .agg #[c.office, c.hour, c.inn, c.out, c.store, c.prev, c.e, c.s], .agg #[d.office, d.hour, d.inn, d.out, d.store, d.prev, d.e, d.s]] w0 (RetB (PP c d) w0)) := hD (fun w0 hb => HP.out _ hb c (List.mem_of_getElem? HC.out) d (List.mem_of_getElem? hd)); obtain ⟨q, hq⟩ : ∃ q, q = PP c d := ⟨_, rfl⟩; rw [← hq] at HPc; clear hd hrg hdg; go_upto_region 7 with fail; refine wrd (S := RowsS w _) (HR3.out.drew) (fun yH => ?_); refine tn 0 ?_ (hx := ldw 0 undBn infoBn); refine tn 1 ?_; refine tn 2 ?_; refine tn 3 ?_; refine tn 4 ?_; refine tn 5 ?_ (hx := ldr HRG1 hbl undCm infoCm); refine tn 6 ?_; refine tn 7 ?_; refine tn 8 ?_; refine tn 9 ?_ (hx := ldr HRG2 hbl undCm infoCm); refine rd1 10 (fun K hK => ?_); go_simp; refine (HPc.out _ yH.below).mono ?_; rintro e w' ⟨rfl, hb⟩; refine hK.out _ _ (yH.step hb) (fun yH => ?_); clear hK K; refine rdn ?_; have HR5 := hD yH; clear yH HR3 HPc; rw [hq]; clear hq
     cases hpp : PP c d with
     | true =>
      have HF := hD (first2_found HNO.out HC.out HND.out HD.out hpp); clear hpp; go_upto_region 8 with fail; refine wrd (S := RowsS w _) (HR5.out.drew) (fun yH => ?_); refine tn 0 ?_; refine tn 1 ?_; refine tn 2 ?_; refine tn 3 ?_ (hx := ldr HRG1 hbl undCm infoCm); refine tn 4 ?_; refine tn 5 ?_; refine tn 6 ?_; refine tn 7 ?_ (hx := ldr HRG2 hbl undCm infoCm); refine rd1 8 (fun K hK => ?_); go_simp; obtain ⟨bl, hbe, hS1, hZL, hgL, hnL, hbA⟩ := yH.allocBD (.cells #[c.office, c.hour, c.inn, c.out, c.store, c.prev, c.e, c.s, d.office, d.hour, d.inn, d.out, d.store, d.prev, d.e, d.s] 63); (try simp only [World.alloc, Array.size_push] at hbe); rw [← hbe]; refine hK.out _ _ hS1 (fun yH => ?_); clear hK K hS1 hbe hbA; refine tn 9 ?_; refine rdn ?_; go_wp2_with fail; go_ret; exact retC_two (by rw [HF.out]; rfl) hgL hZL (by intro x hx; simp only [List.mem_cons, List.not_mem_nil, or_false] at hx; rcases hx with rfl | rfl <;> first | exact HCG.out | exact HDG.out) yH.below
     | false =>
      have HN2 : Hid (∀ (i : Nat) (y : CV), i < j + 1 → l[i]? = some y → PP c y = false) := hD (fun i y hi hy => by
       by_cases e : i = j
       · subst e; rw [HD.out] at hy; cases hy; exact hpp
       · exact HND.out i y (by omega) hy)
      clear hpp; go_wp2_with fail; go_roundw
      case rel => exact ⟨j + 1, by omega, by go_num, HN2.out, HR5.out⟩
      case measure => simp [Go.RowKit.intOf]; omega
    ·
     have HN3 : Hid (∀ (i : Nat) (x : CV), i < k + 1 → l[i]? = some x → ∀ y ∈ l, PP x y = false) := hD (fun i x hi hx y hy => by
      by_cases e : i = k
      ·
       subst e; rw [HC.out] at hx
       cases hx
       obtain ⟨q, hq⟩ := List.getElem?_of_mem hy; exact HND.out q y (by have := (List.getElem?_eq_some_iff.1 hq).1; omega) hq
      · exact HNO.out i x (by omega) hx y hy)
     go_wp2_with fail; go_roundw
     case rel => exact ⟨k + 1, by omega, by go_num, HN3.out, HR3.out⟩
     case measure => simp [Go.RowKit.intOf]; omega
  ·
   have HE : Hid (first2 PP l l = none) := hD (first2_none (fun i x hi hx => HNO.out i x (by omega) hx)); go_wp2_with fail; go_ret; exact retC_nil (by rw [HE.out]; rfl) HR1.out.below
end Go.Proofs.YtjbjpkhibcnenaaGreatDoor
