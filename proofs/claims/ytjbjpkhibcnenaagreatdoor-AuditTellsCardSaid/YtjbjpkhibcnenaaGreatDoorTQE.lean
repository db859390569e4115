/- The reference of package audit: ranged, border, broken. -/
import Derived.Test.YtjbjpkhibcnenaaGreatDoorTQO
namespace Go.Proofs.YtjbjpkhibcnenaaGreatDoor
set_option maxRecDepth 100000
set_option maxHeartbeats 8000000
open Go.RowKit
theorem rranged (x : BsX) (ar : Option Addr) (cr : Nat) (err : Int) (room ps : List Int) (pubs : List PublicV) (o : Int) (c : CV) (w : World) (hR : LArg RInt 1 (.slice ar room.length cr) room w) (h3 : room.length = 3) (he : 0 ≤ err ∧ err ≤ 1099511627776) (hr : ∀ r ∈ room, 0 ≤ r ∧ r ≤ 1125899906842624) (hc : 0 ≤ c.office ∧ c.office < 3) : Calls Tryz.prog 40 #[.agg #[x.nm, .slice x.a1 x.n1 x.c1, x.k, .slice x.a3 x.n3 x.c3, .slice x.a4 x.n4 x.c4, .slice x.a5 x.n5 x.c5, .slice x.a6 x.n6 x.c6, .slice x.a7 x.n7 x.c7, .slice x.a8 x.n8 x.c8, .slice ar 3 cr, err], o, .agg #[c.office, c.hour, c.inn, c.out, c.store, c.prev, c.e, c.s]] w (RetB (decide (c.office = o) && rangeB (judgeV err room ps pubs) c) w) := by
 by_cases ho : c.office = o
 ·
  obtain ⟨j, hj⟩ : ∃ j : Nat, o = (j : Int) := ⟨o.toNat, by omega⟩; subst hj; have hj3 : j < 3 := by omega
  obtain ⟨r, hx⟩ : ∃ r, room[j]? = some r := ⟨_, List.getElem?_eq_getElem (by omega)⟩; have hrb := hr r (List.mem_of_getElem? hx); obtain ⟨b, e, cs, rfl, hbr, -, hrg, rfl, hrI⟩ := hR.at hx; have HRM : Hid (w.cell? ⟨b, e + j, none⟩ = some (.int .i64 r)) := hD (by have := hrg 0 _ rfl; rw [Nat.mul_one, Nat.add_zero] at this; exact this)
  have HRB : Hid (rangeB (judgeV err room ps pubs) c = (decide (c.store < -err) || decide (r + err < c.store) || (decide ((j : Int) = 0) && (decide (c.inn < -err) || decide (err < c.inn))))) := hD (by
   unfold rangeB judgeV; dsimp only
   rw [ho, Int.toNat_natCast, hx])
  have W1 : IntKind.i64.wrap (-err) = -err := IntWalk.i64_in _ (by omega); have W2 : IntKind.i64.wrap (r + err) = r + err := IntWalk.i64_in _ (by omega); have h00 : (j : Int) < 3 := by omega
  obtain ⟨RR, hRR⟩ : ∃ RR, RR = (decide (c.office = (j : Int)) && rangeB (judgeV err room ps pubs) c) := ⟨_, rfl⟩; rw [← hRR]; have HRR := hD hRR; clear hRR; rw [ho]; have HOO := hD ho; have s0 : (w.alloc (.cells #[x.nm, .slice x.a1 x.n1 x.c1, x.k, .slice x.a3 x.n3 x.c3, .slice x.a4 x.n4 x.c4, .slice x.a5 x.n5 x.c5, .slice x.a6 x.n6 x.c6, .slice x.a7 x.n7 x.c7, .slice x.a8 x.n8 x.c8, .slice (some ⟨b, e, none⟩) 3 cr, err] 31)).heap.size = w.heap.size + 1 := by simp
  have HR : Hid (RowsS w [(w.heap.size, .cells #[x.nm, .slice x.a1 x.n1 x.c1, x.k, .slice x.a3 x.n3 x.c3, .slice x.a4 x.n4 x.c4, .slice x.a5 x.n5 x.c5, .slice x.a6 x.n6 x.c6, .slice x.a7 x.n7 x.c7, .slice x.a8 x.n8 x.c8, .slice (some ⟨b, e, none⟩) 3 cr, err] 31), ((w.heap.size + 1), .cells #[(j : Int), c.hour, c.inn, c.out, c.store, c.prev, c.e, c.s] 63)] ((w.alloc (.cells #[x.nm, .slice x.a1 x.n1 x.c1, x.k, .slice x.a3 x.n3 x.c3, .slice x.a4 x.n4 x.c4, .slice x.a5 x.n5 x.c5, .slice x.a6 x.n6 x.c6, .slice x.a7 x.n7 x.c7, .slice x.a8 x.n8 x.c8, .slice (some ⟨b, e, none⟩) 3 cr, err] 31)).alloc (.cells #[(j : Int), c.hour, c.inn, c.out, c.store, c.prev, c.e, c.s] 63))) := hD (by
   have := (((RowsS.nil w).alloc (.cells #[x.nm, .slice x.a1 x.n1 x.c1, x.k, .slice x.a3 x.n3 x.c3, .slice x.a4 x.n4 x.c4, .slice x.a5 x.n5 x.c5, .slice x.a6 x.n6 x.c6, .slice x.a7 x.n7 x.c7, .slice x.a8 x.n8 x.c8, .slice (some ⟨b, e, none⟩) 3 cr, err] 31)).alloc (.cells #[(j : Int), c.hour, c.inn, c.out, c.store, c.prev, c.e, c.s] 63)); rw [s0] at this
   exact this)
  clear s0; clear hR hrg hx hrI hr hrb ho hc h3 he; go_enter Tryz.func40, Tryz.ntmps40; go_upto_region 1 with fail; generalize ((w.alloc (.cells #[x.nm, .slice x.a1 x.n1 x.c1, x.k, .slice x.a3 x.n3 x.c3, .slice x.a4 x.n4 x.c4, .slice x.a5 x.n5 x.c5, .slice x.a6 x.n6 x.c6, .slice x.a7 x.n7 x.c7, .slice x.a8 x.n8 x.c8, .slice (some ⟨b, e, none⟩) 3 cr, err] 31)).alloc (.cells #[(j : Int), c.hour, c.inn, c.out, c.store, c.prev, c.e, c.s] 63)) = w0 at *; have d0 := HR.out.cell 1 0 rfl rfl; go_upto_region 3 with fail; clear d0; refine wrd (S := RowsS w _) (HR.out.drew) (fun yH => ?_); refine tn 0 ?_; refine tn 1 ?_ (hx := cx fun _ h => h.cell 1 4 rfl rfl); refine tn 2 ?_; refine tn 3 ?_ (hx := cx fun _ h => h.cell 0 10 rfl rfl); refine tn 4 ?_; by_cases h1 : c.store < -err
  ·
   refine tn 5 ?_; (try simp only [Act.put, aL1, aL2, aL3]); refine tn 6 ?_; refine skn 21 [(7, some 18), (8, some 19), (9, some 20), (10, some 21), (11, some 22), (12, some 23), (13, some 24), (14, some 25), (15, some 26), (16, some 27), (17, some 28)] ?_; refine tn 18 ?_; refine tn 19 ?_; refine skn 2 [(20, some 31), (21, some 32), (22, some 33), (23, some 34), (24, some 35), (25, some 36), (26, some 37), (27, some 38), (28, some 39), (29, some 40), (30, some 41), (31, some 42), (32, some 43), (33, some 44), (34, some 45), (35, some 46), (36, some 47)] ?_; refine tn 37 ?_; refine tn 38 ?_; refine rdn ?_; have HT : Hid (RR = true) := hD (by (try have h3 := H3.out); rw [HRR.out, HOO.out, HRB.out]; simp [*]); go_wp2_with fail; go_ret; exact retB_mk HT.out yH.below
  ·
   refine tn 5 ?_; (try simp only [Act.put, aL1, aL2, aL3]); refine tn 6 ?_; refine tn 7 ?_; refine tn 8 ?_ (hx := cx fun _ h => h.cell 1 4 rfl rfl); refine tn 9 ?_; refine tn 10 ?_ (hx := cx fun _ h => h.cell 0 9 rfl rfl); refine tn 11 ?_; refine tn 12 ?_; refine tn 13 ?_ (hx := fun wz hSw => by have e4 := (hSw.below.cell hbr).trans HRM.out; go_simp; try with_reducible rfl); refine tn 14 ?_; refine tn 15 ?_ (hx := cx fun _ h => h.cell 0 10 rfl rfl); refine tn 16 ?_; by_cases h2 : r + err < c.store
   ·
    refine tn 17 ?_; (try simp only [Act.put, aL1, aL2, aL3]); refine tn 18 ?_; refine tn 19 ?_; refine skn 2 [(20, some 31), (21, some 32), (22, some 33), (23, some 34), (24, some 35), (25, some 36), (26, some 37), (27, some 38), (28, some 39), (29, some 40), (30, some 41), (31, some 42), (32, some 43), (33, some 44), (34, some 45), (35, some 46), (36, some 47)] ?_; refine tn 37 ?_; refine tn 38 ?_; refine rdn ?_; have HT : Hid (RR = true) := hD (by (try have h3 := H3.out); rw [HRR.out, HOO.out, HRB.out]; simp [*]); go_wp2_with fail; go_ret; exact retB_mk HT.out yH.below
   ·
    refine tn 17 ?_; (try simp only [Act.put, aL1, aL2, aL3]); refine tn 18 ?_; refine tn 19 ?_; refine tn 20 ?_; by_cases h3 : j = 0
    ·
     have q1 : ((j : Int) == 0) = true := by rw [beq_iff_eq]; omega
     have q2 : decide ((j : Int) = 0) = true := decide_eq_true (by omega); have H3 := hD h3; clear h3; refine tn 21 ?_; refine tn 22 ?_; refine tn 23 ?_; refine tn 24 ?_ (hx := cx fun _ h => h.cell 1 2 rfl rfl); refine tn 25 ?_; refine tn 26 ?_ (hx := cx fun _ h => h.cell 0 10 rfl rfl); refine tn 27 ?_; by_cases h4 : c.inn < -err
     ·
      refine tn 28 ?_; (try simp only [Act.put, aL1, aL2, aL3]); refine tn 29 ?_; refine skn 4 [(30, some 41), (31, some 42), (32, some 43), (33, some 44), (34, some 45)] ?_; refine tn 35 ?_; refine tn 36 ?_; refine tn 37 ?_; refine tn 38 ?_; refine rdn ?_; have HT : Hid (RR = true) := hD (by (try have h3 := H3.out); rw [HRR.out, HOO.out, HRB.out]; simp [*]); go_wp2_with fail; go_ret; exact retB_mk HT.out yH.below
     ·
      refine tn 28 ?_; (try simp only [Act.put, aL1, aL2, aL3]); refine tn 29 ?_; refine tn 30 ?_; refine tn 31 ?_ (hx := cx fun _ h => h.cell 1 2 rfl rfl); refine tn 32 ?_; refine tn 33 ?_ (hx := cx fun _ h => h.cell 0 10 rfl rfl); by_cases h5 : err < c.inn
      ·
       refine tn 34 ?_; (try simp only [Act.put, aL1, aL2, aL3]); refine tn 35 ?_; refine tn 36 ?_; refine tn 37 ?_; refine tn 38 ?_; refine rdn ?_; have HT : Hid (RR = true) := hD (by (try have h3 := H3.out); rw [HRR.out, HOO.out, HRB.out]; simp [*]); go_wp2_with fail; go_ret; exact retB_mk HT.out yH.below
      ·
       refine tn 34 ?_; (try simp only [Act.put, aL1, aL2, aL3]); refine tn 35 ?_; refine tn 36 ?_; refine tn 37 ?_; refine tn 38 ?_; refine rdn ?_; have HT : Hid (RR = false) := hD (by (try have h3 := H3.out); rw [HRR.out, HOO.out, HRB.out]; simp [*]); go_wp2_with fail; go_ret; exact retB_mk HT.out yH.below
    ·
     have q1 : ((j : Int) == 0) = false := by rw [beq_eq_false_iff_ne]; omega
     have q2 : decide ((j : Int) = 0) = false := decide_eq_false (by omega); have H3 := hD h3; clear h3; refine tn 21 ?_; refine tn 22 ?_; refine skn 3 [(23, some 34), (24, some 35), (25, some 36), (26, some 37), (27, some 38), (28, some 39), (29, some 40), (30, some 41), (31, some 42), (32, some 43), (33, some 44), (34, some 45), (35, some 46)] ?_; refine tn 36 ?_; refine tn 37 ?_; refine tn 38 ?_; refine rdn ?_; have HT : Hid (RR = false) := hD (by (try have h3 := H3.out); rw [HRR.out, HOO.out, HRB.out]; simp [*]); go_wp2_with fail; go_ret; exact retB_mk HT.out yH.below
 ·
  have HT : Hid ((decide (c.office = o) && rangeB (judgeV err room ps pubs) c) = false) := hD (by rw [decide_eq_false ho]; rfl); have q1 : (c.office != o) = true := by rw [bne_iff_ne]; exact ho
  have q2 : decide (c.office = o) = false := decide_eq_false ho; have q3 : (c.office == o) = false := by rw [beq_eq_false_iff_ne]; exact ho
  obtain ⟨w0, hw0, hR0⟩ := RowsS.twoE w (.cells #[x.nm, .slice x.a1 x.n1 x.c1, x.k, .slice x.a3 x.n3 x.c3, .slice x.a4 x.n4 x.c4, .slice x.a5 x.n5 x.c5, .slice x.a6 x.n6 x.c6, .slice x.a7 x.n7 x.c7, .slice x.a8 x.n8 x.c8, .slice ar 3 cr, err] 31) (.cells #[c.office, c.hour, c.inn, c.out, c.store, c.prev, c.e, c.s] 63); have HR := hD hR0; have HW0 := hD hw0; clear hR0 hw0; clear ho hR hr hc h3 he; go_enter Tryz.func40, Tryz.ntmps40; go_upto_region 1 with fail; rw [HW0.out]; have d0 := HR.out.cell 1 0 rfl rfl; go_wp2_with fail; go_ret; exact retB_mk HT.out HR.out.below
theorem rborder (x : BsX) (ar : Option Addr) (cr : Nat) (err : Int) (room ps : List Int) (pubs : List PublicV) (u : Int) (c d : CV) (w : World) (he : 0 ≤ err ∧ err ≤ 1099511627776) (hu : 0 ≤ u ∧ u ≤ 3) (hco : -1152921504606846976 ≤ c.out ∧ c.out ≤ 1152921504606846976) (hdi : -1152921504606846976 ≤ d.inn ∧ d.inn ≤ 1152921504606846976) : Calls Tryz.prog 41 #[.agg #[x.nm, .slice x.a1 x.n1 x.c1, x.k, .slice x.a3 x.n3 x.c3, .slice x.a4 x.n4 x.c4, .slice x.a5 x.n5 x.c5, .slice x.a6 x.n6 x.c6, .slice x.a7 x.n7 x.c7, .slice x.a8 x.n8 x.c8, .slice ar 3 cr, err], .int .i64 u, .agg #[c.office, c.hour, c.inn, c.out, c.store, c.prev, c.e, c.s], .agg #[d.office, d.hour, d.inn, d.out, d.store, d.prev, d.e, d.s]] w (RetB (decide (c.office = u) && decide (d.office = u + 1) && disB (judgeV err room ps pubs) c d) w) := by
 have W1 : IntKind.i64.wrap (u + 1) = u + 1 := IntWalk.i64_in _ (by omega); have HCO := hD hco; have HDI := hD hdi; obtain ⟨RR, hRR⟩ : ∃ RR, RR = (decide (c.office = u) && decide (d.office = u + 1) && disB (judgeV err room ps pubs) c d) := ⟨_, rfl⟩; rw [← hRR]; have HRR := hD hRR; clear hRR; have W2 : IntKind.i64.wrap (2 * err) = 2 * err := IntWalk.i64_in _ (by omega)
 have HDS : Hid (disB (judgeV err room ps pubs) c d = (decide (c.hour = d.hour) && difB c.out d.inn (2 * err))) := hD (by
  unfold disB difB judgeV; dsimp only
  rw [show decide (c.out - d.inn < -(2 * err)) = decide (2 * err < d.inn - c.out) from by rw [decide_eq_decide]; omega])
 obtain ⟨w0, hw0, hR0⟩ := RowsS.threeE w (.cells #[x.nm, .slice x.a1 x.n1 x.c1, x.k, .slice x.a3 x.n3 x.c3, .slice x.a4 x.n4 x.c4, .slice x.a5 x.n5 x.c5, .slice x.a6 x.n6 x.c6, .slice x.a7 x.n7 x.c7, .slice x.a8 x.n8 x.c8, .slice ar 3 cr, err] 31) (.cells #[c.office, c.hour, c.inn, c.out, c.store, c.prev, c.e, c.s] 63) (.cells #[d.office, d.hour, d.inn, d.out, d.store, d.prev, d.e, d.s] 63); have HR := hD hR0; have HW0 := hD hw0; clear hR0 hw0; go_enter Tryz.func41, Tryz.ntmps41; go_upto_region 1 with fail; rw [HW0.out]; clear he hu hco hdi; have b10 := HR.out.cell 0 10 rfl rfl; have c0 := HR.out.cell 1 0 rfl rfl; have c1 := HR.out.cell 1 1 rfl rfl; have c3 := HR.out.cell 1 3 rfl rfl; have d0 := HR.out.cell 2 0 rfl rfl; have d1 := HR.out.cell 2 1 rfl rfl; have d2 := HR.out.cell 2 2 rfl rfl; by_cases h1 : c.office = u
 ·
  have q1a : (c.office == u) = true := by rw [beq_iff_eq]; exact h1
  have q1b : decide (c.office = u) = true := decide_eq_true h1; have q1c : (c.office != u) = false := by rw [bne, q1a]; rfl
  have H1 := hD h1; clear h1; by_cases h2 : d.office = u + 1
  ·
   have q2a : (d.office == u + 1) = true := by rw [beq_iff_eq]; exact h2
   have q2b : decide (d.office = u + 1) = true := decide_eq_true h2; have q2c : (d.office != u + 1) = false := by rw [bne, q2a]; rfl
   have H2 := hD h2; clear h2; by_cases h3 : c.hour = d.hour
   ·
    have q3a : (c.hour == d.hour) = true := by rw [beq_iff_eq]; exact h3
    have q3b : decide (c.hour = d.hour) = true := decide_eq_true h3; have q3c : (c.hour != d.hour) = false := by rw [bne, q3a]; rfl
    have H3 := hD h3; clear h3; have HT : Hid (RR = difB c.out d.inn (2 * err)) := hD (by rw [HRR.out, HDS.out]; simp [*]); go_wp2_with fail; refine (differ_any c.out d.inn (2 * err) _ HCO.out HDI.out).mono ?_; rintro e w1 ⟨rfl, hb⟩; have HR1 := hD (HR.out.step hb); clear hb; go_wp2_with fail; go_ret; exact retB_mk HT.out HR1.out.below
   ·
    have q3a : (c.hour == d.hour) = false := by rw [beq_eq_false_iff_ne]; exact h3
    have q3b : decide (c.hour = d.hour) = false := decide_eq_false h3; have q3c : (c.hour != d.hour) = true := by rw [bne, q3a]; rfl
    have H3 := hD h3; clear h3; have HT : Hid (RR = false) := hD (by rw [HRR.out, HDS.out]; simp [*]); go_wp2_with fail; go_ret; exact retB_mk HT.out HR.out.below
  ·
   have q2a : (d.office == u + 1) = false := by rw [beq_eq_false_iff_ne]; exact h2
   have q2b : decide (d.office = u + 1) = false := decide_eq_false h2; have q2c : (d.office != u + 1) = true := by rw [bne, q2a]; rfl
   have H2 := hD h2; clear h2; have HT : Hid (RR = false) := hD (by rw [HRR.out, HDS.out]; simp [*]); go_wp2_with fail; go_ret; exact retB_mk HT.out HR.out.below
 ·
  have q1a : (c.office == u) = false := by rw [beq_eq_false_iff_ne]; exact h1
  have q1b : decide (c.office = u) = false := decide_eq_false h1; have q1c : (c.office != u) = true := by rw [bne, q1a]; rfl
  have H1 := hD h1; clear h1; have HT : Hid (RR = false) := hD (by rw [HRR.out, HDS.out]; simp [*]); go_wp2_with fail; go_ret; exact retB_mk HT.out HR.out.below
theorem rbroken (x : BsX) (ar : Option Addr) (cr : Nat) (err : Int) (room ps : List Int) (pubs : List PublicV) (p : PV) (c d : CV) (w : World) (he : 0 ≤ err ∧ err ≤ 1099511627776) (hc : CNum c) (hd : CNum d) (hp : -1152921504606846976 ≤ p.litres ∧ p.litres ≤ 1152921504606846976) : Calls Tryz.prog 42 #[.agg #[x.nm, .slice x.a1 x.n1 x.c1, x.k, .slice x.a3 x.n3 x.c3, .slice x.a4 x.n4 x.c4, .slice x.a5 x.n5 x.c5, .slice x.a6 x.n6 x.c6, .slice x.a7 x.n7 x.c7, .slice x.a8 x.n8 x.c8, .slice ar 3 cr, err], .agg #[p.office, p.since, p.till, p.litres, p.e, p.s], .agg #[c.office, c.hour, c.inn, c.out, c.store, c.prev, c.e, c.s], .agg #[d.office, d.hour, d.inn, d.out, d.store, d.prev, d.e, d.s]] w (RetB (decide (c.office = p.office) && decide (d.office = p.office) && brkB (judgeV err room ps pubs) p c d) w) := by
 unfold CNum at hc hd; have W1 : IntKind.i64.wrap (d.out - c.out) = d.out - c.out := IntWalk.i64_in _ (by omega); obtain ⟨RR, hRR⟩ : ∃ RR, RR = (decide (c.office = p.office) && decide (d.office = p.office) && brkB (judgeV err room ps pubs) p c d) := ⟨_, rfl⟩; rw [← hRR]; have HRR := hD hRR; clear hRR; have W2 : IntKind.i64.wrap (2 * err) = 2 * err := IntWalk.i64_in _ (by omega); have W3 : IntKind.i64.wrap (p.litres - 2 * err) = p.litres - 2 * err := IntWalk.i64_in _ (by omega); have s0 : (w.alloc (.cells #[x.nm, .slice x.a1 x.n1 x.c1, x.k, .slice x.a3 x.n3 x.c3, .slice x.a4 x.n4 x.c4, .slice x.a5 x.n5 x.c5, .slice x.a6 x.n6 x.c6, .slice x.a7 x.n7 x.c7, .slice x.a8 x.n8 x.c8, .slice ar 3 cr, err] 31)).heap.size = w.heap.size + 1 := by simp
 have s1 : ((w.alloc (.cells #[x.nm, .slice x.a1 x.n1 x.c1, x.k, .slice x.a3 x.n3 x.c3, .slice x.a4 x.n4 x.c4, .slice x.a5 x.n5 x.c5, .slice x.a6 x.n6 x.c6, .slice x.a7 x.n7 x.c7, .slice x.a8 x.n8 x.c8, .slice ar 3 cr, err] 31)).alloc (.cells #[p.office, p.since, p.till, p.litres, p.e, p.s] 38)).heap.size = w.heap.size + 1 + 1 := by simp
 have s2 : (((w.alloc (.cells #[x.nm, .slice x.a1 x.n1 x.c1, x.k, .slice x.a3 x.n3 x.c3, .slice x.a4 x.n4 x.c4, .slice x.a5 x.n5 x.c5, .slice x.a6 x.n6 x.c6, .slice x.a7 x.n7 x.c7, .slice x.a8 x.n8 x.c8, .slice ar 3 cr, err] 31)).alloc (.cells #[p.office, p.since, p.till, p.litres, p.e, p.s] 38)).alloc (.cells #[c.office, c.hour, c.inn, c.out, c.store, c.prev, c.e, c.s] 63)).heap.size = w.heap.size + 1 + 1 + 1 := by simp
 have HR : Hid (RowsS w [(w.heap.size, .cells #[x.nm, .slice x.a1 x.n1 x.c1, x.k, .slice x.a3 x.n3 x.c3, .slice x.a4 x.n4 x.c4, .slice x.a5 x.n5 x.c5, .slice x.a6 x.n6 x.c6, .slice x.a7 x.n7 x.c7, .slice x.a8 x.n8 x.c8, .slice ar 3 cr, err] 31), ((w.heap.size + 1), .cells #[p.office, p.since, p.till, p.litres, p.e, p.s] 38), ((w.heap.size + 1 + 1), .cells #[c.office, c.hour, c.inn, c.out, c.store, c.prev, c.e, c.s] 63), ((w.heap.size + 1 + 1 + 1), .cells #[d.office, d.hour, d.inn, d.out, d.store, d.prev, d.e, d.s] 63)] ((((w.alloc (.cells #[x.nm, .slice x.a1 x.n1 x.c1, x.k, .slice x.a3 x.n3 x.c3, .slice x.a4 x.n4 x.c4, .slice x.a5 x.n5 x.c5, .slice x.a6 x.n6 x.c6, .slice x.a7 x.n7 x.c7, .slice x.a8 x.n8 x.c8, .slice ar 3 cr, err] 31)).alloc (.cells #[p.office, p.since, p.till, p.litres, p.e, p.s] 38)).alloc (.cells #[c.office, c.hour, c.inn, c.out, c.store, c.prev, c.e, c.s] 63)).alloc (.cells #[d.office, d.hour, d.inn, d.out, d.store, d.prev, d.e, d.s] 63))) := hD (by
  have := (((((RowsS.nil w).alloc (.cells #[x.nm, .slice x.a1 x.n1 x.c1, x.k, .slice x.a3 x.n3 x.c3, .slice x.a4 x.n4 x.c4, .slice x.a5 x.n5 x.c5, .slice x.a6 x.n6 x.c6, .slice x.a7 x.n7 x.c7, .slice x.a8 x.n8 x.c8, .slice ar 3 cr, err] 31)).alloc (.cells #[p.office, p.since, p.till, p.litres, p.e, p.s] 38)).alloc (.cells #[c.office, c.hour, c.inn, c.out, c.store, c.prev, c.e, c.s] 63)).alloc (.cells #[d.office, d.hour, d.inn, d.out, d.store, d.prev, d.e, d.s] 63)); rw [s0, s1, s2] at this
  exact this)
 clear s0 s1 s2; clear he hc hd hp; go_enter Tryz.func42, Tryz.ntmps42; go_upto_region 1 with fail; generalize ((((w.alloc (.cells #[x.nm, .slice x.a1 x.n1 x.c1, x.k, .slice x.a3 x.n3 x.c3, .slice x.a4 x.n4 x.c4, .slice x.a5 x.n5 x.c5, .slice x.a6 x.n6 x.c6, .slice x.a7 x.n7 x.c7, .slice x.a8 x.n8 x.c8, .slice ar 3 cr, err] 31)).alloc (.cells #[p.office, p.since, p.till, p.litres, p.e, p.s] 38)).alloc (.cells #[c.office, c.hour, c.inn, c.out, c.store, c.prev, c.e, c.s] 63)).alloc (.cells #[d.office, d.hour, d.inn, d.out, d.store, d.prev, d.e, d.s] 63)) = w0 at *; have b10 := HR.out.cell 0 10 rfl rfl; have p0 := HR.out.cell 1 0 rfl rfl; have p1 := HR.out.cell 1 1 rfl rfl; have p2 := HR.out.cell 1 2 rfl rfl; have p3 := HR.out.cell 1 3 rfl rfl; have c0 := HR.out.cell 2 0 rfl rfl; have c1 := HR.out.cell 2 1 rfl rfl; have c3 := HR.out.cell 2 3 rfl rfl; have d0 := HR.out.cell 3 0 rfl rfl; have d1 := HR.out.cell 3 1 rfl rfl; have d3 := HR.out.cell 3 3 rfl rfl; by_cases h1 : c.office = p.office
 ·
  have q1a : (c.office == p.office) = true := by rw [beq_iff_eq]; exact h1
  have q1b : decide (c.office = p.office) = true := decide_eq_true h1; have q1c : (c.office != p.office) = false := by rw [bne, q1a]; rfl
  have H1 := hD h1; clear h1; by_cases h2 : d.office = p.office
  ·
   have q2a : (d.office == p.office) = true := by rw [beq_iff_eq]; exact h2
   have q2b : decide (d.office = p.office) = true := decide_eq_true h2; have q2c : (d.office != p.office) = false := by rw [bne, q2a]; rfl
   have H2 := hD h2; clear h2; by_cases h3 : c.hour = p.since
   ·
    have q3a : (c.hour == p.since) = true := by rw [beq_iff_eq]; exact h3
    have q3b : decide (c.hour = p.since) = true := decide_eq_true h3; have q3c : (c.hour != p.since) = false := by rw [bne, q3a]; rfl
    have H3 := hD h3; clear h3; by_cases h4 : d.hour = p.till
    ·
     have q4a : (d.hour == p.till) = true := by rw [beq_iff_eq]; exact h4
     have q4b : decide (d.hour = p.till) = true := decide_eq_true h4; have q4c : (d.hour != p.till) = false := by rw [bne, q4a]; rfl
     have H4 := hD h4; clear h4; by_cases h5 : p.since < p.till
     ·
      have q5b : decide (p.since < p.till) = true := decide_eq_true h5; have H5 := hD h5; clear h5; by_cases h6 : d.out - c.out < p.litres - 2 * err
      ·
       have q6b : decide (d.out - c.out < p.litres - 2 * err) = true := decide_eq_true h6; have H6 := hD h6; clear h6; have HT : Hid (RR = true) := hD (by rw [HRR.out]; unfold brkB judgeV; dsimp only; simp [*]); go_wp2_with fail; go_ret; exact retB_mk HT.out HR.out.below
      ·
       have q6b : decide (d.out - c.out < p.litres - 2 * err) = false := decide_eq_false h6; have H6 := hD h6; clear h6; have HT : Hid (RR = false) := hD (by rw [HRR.out]; unfold brkB judgeV; dsimp only; simp [*]); go_wp2_with fail; go_ret; exact retB_mk HT.out HR.out.below
     ·
      have q5b : decide (p.since < p.till) = false := decide_eq_false h5; have H5 := hD h5; clear h5; have HT : Hid (RR = false) := hD (by rw [HRR.out]; unfold brkB judgeV; dsimp only; simp [*]); go_wp2_with fail; go_ret; exact retB_mk HT.out HR.out.below
    ·
     have q4a : (d.hour == p.till) = false := by rw [beq_eq_false_iff_ne]; exact h4
     have q4b : decide (d.hour = p.till) = false := decide_eq_false h4; have q4c : (d.hour != p.till) = true := by rw [bne, q4a]; rfl
     have H4 := hD h4; clear h4; have HT : Hid (RR = false) := hD (by rw [HRR.out]; unfold brkB judgeV; dsimp only; simp [*]); go_wp2_with fail; go_ret; exact retB_mk HT.out HR.out.below
   ·
    have q3a : (c.hour == p.since) = false := by rw [beq_eq_false_iff_ne]; exact h3
    have q3b : decide (c.hour = p.since) = false := decide_eq_false h3; have q3c : (c.hour != p.since) = true := by rw [bne, q3a]; rfl
    have H3 := hD h3; clear h3; have HT : Hid (RR = false) := hD (by rw [HRR.out]; unfold brkB judgeV; dsimp only; simp [*]); go_wp2_with fail; go_ret; exact retB_mk HT.out HR.out.below
  ·
   have q2a : (d.office == p.office) = false := by rw [beq_eq_false_iff_ne]; exact h2
   have q2b : decide (d.office = p.office) = false := decide_eq_false h2; have q2c : (d.office != p.office) = true := by rw [bne, q2a]; rfl
   have H2 := hD h2; clear h2; have HT : Hid (RR = false) := hD (by rw [HRR.out]; unfold brkB judgeV; dsimp only; simp [*]); go_wp2_with fail; go_ret; exact retB_mk HT.out HR.out.below
 ·
  have q1a : (c.office == p.office) = false := by rw [beq_eq_false_iff_ne]; exact h1
  have q1b : decide (c.office = p.office) = false := decide_eq_false h1; have q1c : (c.office != p.office) = true := by rw [bne, q1a]; rfl
  have H1 := hD h1; clear h1; have HT : Hid (RR = false) := hD (by rw [HRR.out]; unfold brkB judgeV; dsimp only; simp [*]); go_wp2_with fail; go_ret; exact retB_mk HT.out HR.out.below
end Go.Proofs.YtjbjpkhibcnenaaGreatDoor

