/- The reference of package audit: Check. -/
import Derived.Test.YtjbjpkhibcnenaaGreatDoorTQM
import Derived.Test.YtjbjpkhibcnenaaGreatDoorACheckD
namespace Go.Proofs.YtjbjpkhibcnenaaGreatDoor
set_option maxRecDepth 100000
set_option maxHeartbeats 16000000
open Go.RowKit
theorem pairB_ne {J : JV} {o why : Int} {c d : CV} (h : c.office ≠ o) : pairB J o why c d = false := by
 unfold pairB; rw [decide_eq_false h]
 rfl
theorem ckPair {J : JV} {o why : Int} {c d : CV} {p : PV} (hw : why = 0 ∨ why = 1 ∨ why = 3) (hc : J.K c = true) (hd : J.K d = true) (ho : 0 ≤ c.office ∧ c.office < 3) : checkB J ⟨o, why, [c, d], p⟩ = pairB J o why c d := by
 by_cases h1 : c.office = o
 ·
  subst h1; rcases hw with rfl | rfl | rfl
  · simp [checkB, condB, pairB, allB, hc, hd, ho]
  · simp [checkB, condB, pairB, allB, hc, hd, ho]
  ·
   by_cases h2 : c.office = 2
   · simp [checkB, condB, pairB, allB, hc, hd, h2]
   · simp [checkB, condB, pairB, h2]
 ·
  rw [pairB_ne h1]; rcases hw with rfl | rfl | rfl
  · simp [checkB, condB, allB, h1]
  · simp [checkB, condB, allB, h1]
  ·
   by_cases h2 : o = 2
   · subst h2; simp [checkB, condB, allB, h1]
   · simp [checkB, condB, h2]
theorem ckLen {J : JV} {o why : Int} {l : List CV} {p : PV} (hw : why = 0 ∨ why = 1 ∨ why = 3 ∨ why = 5) (h : l.length ≠ 2) : checkB J ⟨o, why, l, p⟩ = false := by
 rcases l with _ | ⟨a, _ | ⟨b, _ | ⟨c, l⟩⟩⟩
 · rcases hw with rfl | rfl | rfl | rfl <;> simp [checkB, condB]
 · rcases hw with rfl | rfl | rfl | rfl <;> simp [checkB, condB]
 · exact absurd rfl h
 · rcases hw with rfl | rfl | rfl | rfl <;> simp [checkB, condB]
theorem ckLen1 {J : JV} {o : Int} {l : List CV} {p : PV} (h : l.length ≠ 1) : checkB J ⟨o, 2, l, p⟩ = false := by
 rcases l with _ | ⟨a, _ | ⟨b, l⟩⟩
 · simp [checkB, condB]
 · exact absurd rfl h
 · simp [checkB, condB]
theorem ckLen4 {J : JV} {o : Int} {l : List CV} {p : PV} (h : l.length ≠ 4) : checkB J ⟨o, 4, l, p⟩ = false := by
 rcases l with _ | ⟨a, _ | ⟨b, _ | ⟨c, _ | ⟨d, _ | ⟨e, l⟩⟩⟩⟩⟩
 · simp [checkB, condB]
 · simp [checkB, condB]
 · simp [checkB, condB]
 · simp [checkB, condB]
 · exact absurd rfl h
 · simp [checkB, condB]
theorem ckRange {J : JV} {o : Int} {c : CV} {p : PV} (hc : J.K c = true) (ho : 0 ≤ c.office ∧ c.office < 3) : checkB J ⟨o, 2, [c], p⟩ = (decide (c.office = o) && rangeB J c) := by
 by_cases h1 : c.office = o
 · subst h1; simp [checkB, condB, allB, hc, ho]
 · simp [checkB, condB, allB, h1]
theorem ckMiddle {J : JV} {a b c d : CV} {p : PV} (ha : J.K a = true) (hb : J.K b = true) (hc : J.K c = true) (hd : J.K d = true) : checkB J ⟨1, 4, [a, b, c, d], p⟩ = (bordB J 0 a b && bordB J 1 c d) := by
 have e1 : bordB J 0 a b = (decide (a.office = 0) && decide (b.office = 1) && disB J a b) := rfl; have e2 : bordB J 1 c d = (decide (c.office = 1) && decide (d.office = 2) && disB J c d) := rfl
 have e3 : checkB J ⟨1, 4, [a, b, c, d], p⟩ = (decide (a.office = 0) && (decide (b.office = 1) && decide (c.office = 1)) && decide (d.office = 2) && disB J a b && disB J c d) := by
  simp [checkB, condB, allB, ha, hb, hc, hd]
 rw [e1, e2, e3]
 cases decide (a.office = 0) <;> cases decide (b.office = 1) <;> cases decide (c.office = 1) <;> cases decide (d.office = 2) <;> cases disB J a b <;> cases disB J c d <;> rfl
theorem ckMid {J : JV} {o : Int} {l : List CV} {p : PV} (h : o ≠ 1) : checkB J ⟨o, 4, l, p⟩ = false := by simp [checkB, condB, h]
theorem ckProm {J : JV} {c d : CV} {p : PV} (hc : J.K c = true) (hd : J.K d = true) (ho : 0 ≤ c.office ∧ c.office < 3) : checkB J ⟨p.office, 5, [c, d], p⟩ = (J.V p && (decide (c.office = p.office) && decide (d.office = p.office) && brkB J p c d)) := by
 by_cases h1 : c.office = p.office
 ·
  have e : checkB J ⟨p.office, 5, [c, d], p⟩ = (decide (d.office = p.office) && J.V p && brkB J p c d) := by simp [checkB, condB, allB, hc, hd, h1, h1 ▸ ho]
  rw [e, decide_eq_true h1]
  cases J.V p <;> cases decide (d.office = p.office) <;> rfl
 ·
  rw [decide_eq_false h1]; simp [checkB, condB, allB, h1]
theorem ckProm2 {J : JV} {o : Int} {l : List CV} {p : PV} (h : p.office ≠ o) : checkB J ⟨o, 5, l, p⟩ = false := by
 rcases l with _ | ⟨a, _ | ⟨b, _ | ⟨c, l⟩⟩⟩ <;> simp [checkB, condB, h]
theorem rpair_ne (x : BsX) (ar : Option Addr) (cr : Nat) (err : Int) (_room _ps : List Int) (pubs : List PublicV) (aq : Option Addr) (nq : Nat) (o why : Int) (c d : CV) (w : World) (h1 : c.office ≠ o) : Calls Tryz.prog 39 #[.agg #[x.nm, .slice x.a1 x.n1 x.c1, x.k, .slice x.a3 x.n3 x.c3, .slice x.a4 x.n4 x.c4, .slice x.a5 x.n5 x.c5, .slice x.a6 x.n6 x.c6, .slice x.a7 x.n7 x.c7, .slice x.a8 x.n8 x.c8, .slice ar 3 cr, err], .slice aq pubs.length nq, o, .int .i64 why, .agg #[c.office, c.hour, c.inn, c.out, c.store, c.prev, c.e, c.s], .agg #[d.office, d.hour, d.inn, d.out, d.store, d.prev, d.e, d.s]] w (RetB false w) := by
 obtain ⟨w0, hw0, hR0⟩ := RowsS.threeE w (.cells #[x.nm, .slice x.a1 x.n1 x.c1, x.k, .slice x.a3 x.n3 x.c3, .slice x.a4 x.n4 x.c4, .slice x.a5 x.n5 x.c5, .slice x.a6 x.n6 x.c6, .slice x.a7 x.n7 x.c7, .slice x.a8 x.n8 x.c8, .slice ar 3 cr, err] 31) (.cells #[c.office, c.hour, c.inn, c.out, c.store, c.prev, c.e, c.s] 63) (.cells #[d.office, d.hour, d.inn, d.out, d.store, d.prev, d.e, d.s] 63); have HR := hD hR0; have HW0 := hD hw0; clear hR0 hw0; have q1a : (c.office == o) = false := by rw [beq_eq_false_iff_ne]; exact h1
 have q1c : (c.office != o) = true := by rw [bne_iff_ne]; exact h1
 clear h1; go_enter Tryz.func39, Tryz.ntmps39; go_upto_region 1 with fail; rw [HW0.out]; have c0 := HR.out.cell 1 0 rfl rfl; go_wp2_with fail; go_ret; exact retB_mk rfl HR.out.below
theorem rpair_all (x : BsX) (ar : Option Addr) (cr : Nat) (err : Int) (room ps : List Int) (pubs : List PublicV) (aq : Option Addr) (nq : Nat) (o why : Int) (c d : CV) (w : World) (hQ : LArg RPublic 4 (.slice aq pubs.length nq) pubs w) (hl : pubs.length ≤ 1000) (hI : ∀ p ∈ pubs, PbI p) (he : 0 ≤ err ∧ err ≤ 1099511627776) (hc : CNum c ∧ (0 ≤ c.office ∧ c.office < 3) ∧ 0 ≤ c.hour ∧ c.hour ≤ 16777216) (hd : CNum d ∧ (0 ≤ d.office ∧ d.office < 3) ∧ 0 ≤ d.hour ∧ d.hour ≤ 16777216) : Calls Tryz.prog 39 #[.agg #[x.nm, .slice x.a1 x.n1 x.c1, x.k, .slice x.a3 x.n3 x.c3, .slice x.a4 x.n4 x.c4, .slice x.a5 x.n5 x.c5, .slice x.a6 x.n6 x.c6, .slice x.a7 x.n7 x.c7, .slice x.a8 x.n8 x.c8, .slice ar 3 cr, err], .slice aq pubs.length nq, o, .int .i64 why, .agg #[c.office, c.hour, c.inn, c.out, c.store, c.prev, c.e, c.s], .agg #[d.office, d.hour, d.inn, d.out, d.store, d.prev, d.e, d.s]] w (RetB (pairB (judgeV err room ps pubs) o why c d) w) := by
 by_cases h : c.office = o
 · exact rpair x ar cr err room ps pubs aq nq o why c d w hQ hl hI he (by rw [← h]; exact hc.2.1) hc hd
 ·
  rw [pairB_ne h]; exact rpair_ne x ar cr err room ps pubs aq nq o why c d w h
theorem len2 {α : Type} {l : List α} (h : l.length = 2) : ∃ a b, l = [a, b] := by
 rcases l with _ | ⟨a, _ | ⟨b, _ | ⟨c, l⟩⟩⟩
 · cases h
 · cases h
 · exact ⟨a, b, rfl⟩
 · simp at h
theorem len4 {α : Type} {l : List α} (h : l.length = 4) : ∃ a b c d, l = [a, b, c, d] := by
 rcases l with _ | ⟨a, _ | ⟨b, _ | ⟨c, _ | ⟨d, _ | ⟨e, l⟩⟩⟩⟩⟩
 · cases h
 · cases h
 · cases h
 · cases h
 · exact ⟨a, b, c, d, rfl⟩
 · simp at h
theorem rcheck (x : BsX) (ar ap : Option Addr) (cr cp : Nat) (err : Int) (room ps : List Int) (pubs : List PublicV) (aq : Option Addr) (nq : Nat) (xo xw : Int) (xc : List CV) (xp : PV) (al : Option Addr) (lc : Nat) (w : World) (hI : JIn ar ap cr cp err room ps (.slice aq pubs.length nq) pubs w) (hL : LArg RC 8 (.slice al xc.length lc) xc w) (hC : ∀ c ∈ xc, COk c ∧ c.prev.size ≤ 900) (hl : xc.length ≤ 1000) (hO : POk xp) :
 Calls Tryz.prog 16 #[.agg #[x.nm, .slice x.a1 x.n1 x.c1, x.k, .slice x.a3 x.n3 x.c3, .slice x.a4 x.n4 x.c4, .slice x.a5 x.n5 x.c5, .slice x.a6 x.n6 x.c6, .slice x.a7 x.n7 x.c7, .slice x.a8 x.n8 x.c8, .slice ar 3 cr, err], .slice ap 3 cp, .slice aq pubs.length nq, .agg #[xo, xw, .slice al xc.length lc, xp.office, xp.since, xp.till, xp.litres, xp.e, xp.s]] w (RetB (checkB (judgeV err room ps pubs) ⟨xo, xw, xc, xp⟩) w) := by
 have HI := hD hI; have HL := hD hL; have HCO := hD hC; have HOx := hD hO; have HPI := hD hI.pbI; obtain ⟨w0, hw0, hR0⟩ := RowsS.twoE w (.cells #[x.nm, .slice x.a1 x.n1 x.c1, x.k, .slice x.a3 x.n3 x.c3, .slice x.a4 x.n4 x.c4, .slice x.a5 x.n5 x.c5, .slice x.a6 x.n6 x.c6, .slice x.a7 x.n7 x.c7, .slice x.a8 x.n8 x.c8, .slice ar 3 cr, err] 31) (.cells #[xo, xw, .slice al xc.length lc, xp.office, xp.since, xp.till, xp.litres, xp.e, xp.s] 40); have HR := hD hR0; have HW0 := hD hw0; clear hR0 hw0; clear hI hL hC hO; go_enter Tryz.func16, Tryz.ntmps16; go_upto_region 1 with fail; rw [HW0.out]; have c2 := HR.out.cell 1 2 rfl rfl; go_upto_region 2 with fail; clear c2; go_wp2_with fail; go_loopw [10] (fun iv wx => ∃ k : Nat, k ≤ xc.length ∧ iv = .int .i64 k ∧ (∀ (i : Nat) (c : CV), i < k → xc[i]? = some c → kB ps c = true) ∧ RowsS w [(w.heap.size, .cells #[x.nm, .slice x.a1 x.n1 x.c1, x.k, .slice x.a3 x.n3 x.c3, .slice x.a4 x.n4 x.c4, .slice x.a5 x.n5 x.c5, .slice x.a6 x.n6 x.c6, .slice x.a7 x.n7 x.c7, .slice x.a8 x.n8 x.c8, .slice ar 3 cr, err] 31), ((w.heap.size + 1), .cells #[xo, xw, .slice al xc.length lc, xp.office, xp.since, xp.till, xp.litres, xp.e, xp.s] 40)] wx) (fun iv _ => xc.length - (Go.RowKit.intOf iv).toNat)
 case atStart => exact ⟨0, Nat.zero_le _, rfl, fun i x h => absurd h (Nat.not_lt_zero _), HR.out⟩
 case round =>
  obtain ⟨k, hk, rfl, hno, hr⟩ := hrel; have HNO := hD hno; have HR1 := hD hr; clear hno hr HR; by_cases hlt : k < xc.length
  ·
   obtain ⟨c, hc⟩ : ∃ c, xc[k]? = some c := ⟨_, List.getElem?_eq_getElem hlt⟩; obtain ⟨b, o1, cs, rfl, hbl, -, hrg, hcs, -⟩ := HL.out.at hc; unfold cellsC at hcs; subst hcs; have HRG := hD (rangeAt_below hrg HR1.out.below hbl); have HCt := hD (rcounts ps ap cp c wr (by rw [HI.out.lp]; exact HI.out.lpubs.below stays_int HR1.out.below) HI.out.lp (HCO.out c (List.mem_of_getElem? hc)).1 (HCO.out c (List.mem_of_getElem? hc)).2); have HC := hD hc; clear hc hrg
   cases hK : kB ps c with
   | false =>
    rw [hK] at HCt; have HT : Hid (checkB (judgeV err room ps pubs) ⟨xo, xw, xc, xp⟩ = false) := hD (check_counts (c := c) (List.mem_of_getElem? HC.out) hK); clear hK; go_wp2_with (refine lRG HRG.out undCm infoCm ?_); refine HCt.out.mono ?_; rintro e w5 ⟨rfl, hb⟩; have HR5 := hD (HR1.out.step hb); clear hb HRG HCt; go_wp2_with fail; go_ret; exact retB_mk HT.out HR5.out.below
   | true =>
    rw [hK] at HCt
    have HN2 : Hid (∀ (i : Nat) (c : CV), i < k + 1 → xc[i]? = some c → kB ps c = true) := hD (fun i y hi hy => by
     by_cases e : i = k
     · subst e; rw [HC.out] at hy; cases hy; exact hK
     · exact HNO.out i y (by omega) hy)
    clear hK; go_wp2_with (refine lRG HRG.out undCm infoCm ?_); refine HCt.out.mono ?_; rintro e w5 ⟨rfl, hb⟩; have HR5 := hD (HR1.out.step hb); clear hb HRG HCt; go_wp2_with fail; go_roundw
    case rel => exact ⟨k + 1, by omega, by go_num, HN2.out, HR5.out⟩
    case measure => simp [Go.RowKit.intOf]; omega
  ·
   obtain rfl : k = xc.length := by omega
   have HKA : Hid (∀ c ∈ xc, kB ps c = true) := hD (fun c hc => by
    obtain ⟨j, hj⟩ := List.getElem?_of_mem hc
    exact HNO.out j c (List.getElem?_eq_some_iff.1 hj).1 hj)
   clear HNO hlt hk; have c1 := HR1.out.cell 1 1 rfl rfl; by_cases hw : xw = 0 ∨ xw = 1 ∨ xw = 3
   ·
    have HWW := hD hw; rcases hw with h | h | h; have q0a : (xw == 0) = true := by rw [beq_iff_eq]; exact h
    have q0b : decide (xw = 0) = true := decide_eq_true h; have q1a : (xw == 1) = false := by rw [beq_eq_false_iff_ne]; omega
    have q1b : decide (xw = 1) = false := decide_eq_false (by omega); have q3a : (xw == 3) = false := by rw [beq_eq_false_iff_ne]; omega
    have q3b : decide (xw = 3) = false := decide_eq_false (by omega); clear h; go_upto_region 11 with fail; clear q0a q0b q1a q1b q3a q3b; rotate_left; have q0a : (xw == 0) = false := by rw [beq_eq_false_iff_ne]; omega
    have q0b : decide (xw = 0) = false := decide_eq_false (by omega); have q1a : (xw == 1) = true := by rw [beq_iff_eq]; exact h
    have q1b : decide (xw = 1) = true := decide_eq_true h; have q3a : (xw == 3) = false := by rw [beq_eq_false_iff_ne]; omega
    have q3b : decide (xw = 3) = false := decide_eq_false (by omega); clear h; go_upto_region 11 with fail; clear q0a q0b q1a q1b q3a q3b; rotate_left; have q0a : (xw == 0) = false := by rw [beq_eq_false_iff_ne]; omega
    have q0b : decide (xw = 0) = false := decide_eq_false (by omega); have q1a : (xw == 1) = false := by rw [beq_eq_false_iff_ne]; omega
    have q1b : decide (xw = 1) = false := decide_eq_false (by omega); have q3a : (xw == 3) = true := by rw [beq_iff_eq]; exact h
    have q3b : decide (xw = 3) = true := decide_eq_true h; clear h; go_upto_region 11 with fail; clear q0a q0b q1a q1b q3a q3b; rotate_left
    all_goals
     by_cases hn : xc.length = 2
     ·
      obtain ⟨c, d, rfl⟩ : ∃ c d, xc = [c, d] := len2 hn; clear hn; obtain ⟨b, oo, cs, rfl, hbl, -, hrg, hcs, -⟩ := HL.out.at (j := 0) (x := c) rfl; unfold cellsC at hcs; subst hcs; have HRG0 := hD hrg; clear hrg; obtain ⟨b2, o2, cs, ha, -, -, hrg, hcs, -⟩ := HL.out.at (j := 1) (x := d) rfl; simp only [Option.some.injEq, Addr.mk.injEq, and_true] at ha; obtain ⟨rfl, rfl⟩ := ha; unfold cellsC at hcs; subst hcs; have HRG1 := hD hrg; clear hrg; have HK0 := hD (HKA.out c (by simp)); have HN0 := hD (kB_num HK0.out); have HK1 := hD (HKA.out d (by simp)); have HN1 := hD (kB_num HK1.out); simp only [List.length_cons, List.length_nil, Nat.zero_add, Nat.reduceAdd] at *; obtain ⟨q, hq⟩ : ∃ q, q = pairB (judgeV err room ps pubs) xo xw c d := ⟨_, rfl⟩; have HT : Hid (checkB (judgeV err room ps pubs) ⟨xo, xw, [c, d], xp⟩ = q) := hD (by rw [hq]; exact ckPair HWW.out HK0.out HK1.out HN0.out.2.1); have HPc : Hid (∀ w0, Below w.heap.size w w0 → Calls Tryz.prog 39 #[.agg #[x.nm, .slice x.a1 x.n1 x.c1, x.k, .slice x.a3 x.n3 x.c3, .slice x.a4 x.n4 x.c4, .slice x.a5 x.n5 x.c5, .slice x.a6 x.n6 x.c6, .slice x.a7 x.n7 x.c7, .slice x.a8 x.n8 x.c8, .slice ar 3 cr, err], .slice aq pubs.length nq, xo, xw, .agg #[c.office, c.hour, c.inn, c.out, c.store, c.prev, c.e, c.s], .agg #[d.office, d.hour, d.inn, d.out, d.store, d.prev, d.e, d.s]] w0 (RetB q w0)) := hD (fun w0 hb => by rw [hq]; exact rpair_all x ar cr err room ps pubs aq nq xo xw c d w0 (HI.out.lq.below stays_Public hb) HI.out.hl HPI.out HI.out.e0 HN0.out HN1.out)
      clear hq; refine wrd (S := RowsS w _) (HR1.out.drew) (fun yH => ?_); refine tn 0 ?_; refine tn 1 ?_; refine tn 2 ?_; refine tn 3 ?_; refine tn 4 ?_ (hx := ldw 0 undBn infoBn); refine tn 5 ?_; refine tn 6 ?_; refine tn 7 ?_ (hx := cx fun _ h => h.cell 1 0 rfl rfl); refine tn 8 ?_; refine tn 9 ?_ (hx := cx fun _ h => h.cell 1 1 rfl rfl); refine tn 10 ?_; refine tn 11 ?_; refine tn 12 ?_ (hx := ldr HRG0 hbl undCm infoCm); refine tn 13 ?_; refine tn 14 ?_; refine tn 15 ?_ (hx := ldr HRG1 hbl undCm infoCm); refine rd1 16 (fun K hK => ?_); go_simp; refine (HPc.out _ yH.below).mono ?_; rintro e w' ⟨rfl, hb⟩; refine hK.out _ _ (yH.step hb) (fun yH => ?_); clear hK K; refine tn 17 ?_; refine tn 18 ?_; refine rdn ?_; go_wp2_with fail; go_ret; exact retB_mk HT.out yH.below
     ·
      have HT : Hid (checkB (judgeV err room ps pubs) ⟨xo, xw, xc, xp⟩ = false) := hD (ckLen (by have := HWW.out; omega) hn); have qa : ((xc.length : Int) == 2) = false := by rw [beq_eq_false_iff_ne]; omega
      have qb : decide ((xc.length : Int) = 2) = false := decide_eq_false (by omega); have qc : (xc.length == 2) = false := by rw [beq_eq_false_iff_ne]; exact hn
      clear hn; refine wrd (S := RowsS w _) (HR1.out.drew) (fun yH => ?_); refine tn 0 ?_; refine tn 1 ?_; refine tn 2 ?_; refine tn 3 ?_; refine skn 2 [(4, some 36), (5, some 37), (6, some 38), (7, some 39), (8, some 40), (9, some 41), (10, some 42), (11, some 43), (12, some 44), (13, some 45), (14, some 46), (15, some 47), (16, some 48)] ?_; refine tn 17 ?_; refine tn 18 ?_; refine rdn ?_; go_wp2_with fail; go_ret; exact retB_mk HT.out yH.below
   ·
    by_cases h2 : xw = 2
    ·
     subst h2; clear hw; by_cases hn : xc.length = 1
     ·
      obtain ⟨c, rfl⟩ : ∃ c, xc = [c] := List.length_eq_one_iff.1 hn; clear hn; obtain ⟨b, oo, cs, rfl, hbl, -, hrg, hcs, -⟩ := HL.out.at (j := 0) (x := c) rfl; unfold cellsC at hcs; subst hcs; have HRG0 := hD hrg; clear hrg; have HK0 := hD (HKA.out c (by simp)); have HN0 := hD (kB_num HK0.out); simp only [List.length_cons, List.length_nil, Nat.zero_add] at *; obtain ⟨q, hq⟩ : ∃ q, q = (decide (c.office = xo) && rangeB (judgeV err room ps pubs) c) := ⟨_, rfl⟩; have HT : Hid (checkB (judgeV err room ps pubs) ⟨xo, 2, [c], xp⟩ = q) := hD (by rw [hq]; exact ckRange HK0.out HN0.out.2.1); have HPc : Hid (∀ w0, Below w.heap.size w w0 → Calls Tryz.prog 40 #[.agg #[x.nm, .slice x.a1 x.n1 x.c1, x.k, .slice x.a3 x.n3 x.c3, .slice x.a4 x.n4 x.c4, .slice x.a5 x.n5 x.c5, .slice x.a6 x.n6 x.c6, .slice x.a7 x.n7 x.c7, .slice x.a8 x.n8 x.c8, .slice ar 3 cr, err], xo, .agg #[c.office, c.hour, c.inn, c.out, c.store, c.prev, c.e, c.s]] w0 (RetB q w0)) := hD (fun w0 hb => by rw [hq]; exact rranged x ar cr err room ps pubs xo c w0 (by rw [HI.out.lr]; exact HI.out.lroom.below stays_int hb) HI.out.lr HI.out.e0 HI.out.r0 HN0.out.2.1); clear hq; go_upto_region 13 with fail; refine wrd (S := RowsS w _) (HR1.out.drew) (fun yH => ?_); refine tn 0 ?_; refine tn 1 ?_; refine tn 2 ?_; refine tn 3 ?_; refine tn 4 ?_ (hx := ldw 0 undBn infoBn); refine tn 5 ?_; refine tn 6 ?_ (hx := cx fun _ h => h.cell 1 0 rfl rfl); refine tn 7 ?_; refine tn 8 ?_; refine tn 9 ?_ (hx := ldr HRG0 hbl undCm infoCm)
      refine rd1 10 (fun K hK => ?_); go_simp; refine (HPc.out _ yH.below).mono ?_; rintro e w' ⟨rfl, hb⟩; refine hK.out _ _ (yH.step hb) (fun yH => ?_); clear hK K; refine tn 11 ?_; refine tn 12 ?_; refine rdn ?_; go_wp2_with fail; go_ret; exact retB_mk HT.out yH.below
     ·
      have HT : Hid (checkB (judgeV err room ps pubs) ⟨xo, 2, xc, xp⟩ = false) := hD (ckLen1 hn); have qa : ((xc.length : Int) == 1) = false := by rw [beq_eq_false_iff_ne]; omega
      have qb : decide ((xc.length : Int) = 1) = false := decide_eq_false (by omega); have qc : (xc.length == 1) = false := by rw [beq_eq_false_iff_ne]; exact hn
      clear hn; go_upto_region 13 with fail; refine wrd (S := RowsS w _) (HR1.out.drew) (fun yH => ?_); refine tn 0 ?_; refine tn 1 ?_; refine tn 2 ?_; refine tn 3 ?_; refine skn 2 [(4, some 56), (5, some 57), (6, some 58), (7, some 59), (8, some 60), (9, some 61), (10, some 62)] ?_; refine tn 11 ?_; refine tn 12 ?_; refine rdn ?_; go_wp2_with fail; go_ret; exact retB_mk HT.out yH.below
    ·
     by_cases h4 : xw = 4
     ·
      subst h4; clear hw; by_cases hn : xc.length = 4
      ·
       obtain ⟨a1, a2, a3, a4, rfl⟩ : ∃ a1 a2 a3 a4, xc = [a1, a2, a3, a4] := len4 hn; clear hn; obtain ⟨b, oo, cs, rfl, hbl, -, hrg, hcs, -⟩ := HL.out.at (j := 0) (x := a1) rfl; unfold cellsC at hcs; subst hcs; have HRG0 := hD hrg; clear hrg; obtain ⟨b2, o2, cs, ha, -, -, hrg, hcs, -⟩ := HL.out.at (j := 1) (x := a2) rfl; simp only [Option.some.injEq, Addr.mk.injEq, and_true] at ha; obtain ⟨rfl, rfl⟩ := ha; unfold cellsC at hcs; subst hcs; have HRG1 := hD hrg; clear hrg; obtain ⟨b2, o2, cs, ha, -, -, hrg, hcs, -⟩ := HL.out.at (j := 2) (x := a3) rfl; simp only [Option.some.injEq, Addr.mk.injEq, and_true] at ha; obtain ⟨rfl, rfl⟩ := ha; unfold cellsC at hcs; subst hcs; have HRG2 := hD hrg; clear hrg; obtain ⟨b2, o2, cs, ha, -, -, hrg, hcs, -⟩ := HL.out.at (j := 3) (x := a4) rfl; simp only [Option.some.injEq, Addr.mk.injEq, and_true] at ha; obtain ⟨rfl, rfl⟩ := ha; unfold cellsC at hcs; subst hcs; have HRG3 := hD hrg; clear hrg; have HK0 := hD (HKA.out a1 (by simp)); have HN0 := hD (kB_num HK0.out); have HK1 := hD (HKA.out a2 (by simp)); have HN1 := hD (kB_num HK1.out); have HK2 := hD (HKA.out a3 (by simp)); have HN2 := hD (kB_num HK2.out); have HK3 := hD (HKA.out a4 (by simp)); have HN3 := hD (kB_num HK3.out); simp only [List.length_cons, List.length_nil, Nat.zero_add, Nat.reduceAdd] at *; by_cases ho : xo = 1
       ·
        subst ho; obtain ⟨q, hq⟩ : ∃ q, q = bordB (judgeV err room ps pubs) 1 a3 a4 := ⟨_, rfl⟩; have HQ4 := hD hq; have HP2 : Hid (∀ w0, Calls Tryz.prog 41 #[.agg #[x.nm, .slice x.a1 x.n1 x.c1, x.k, .slice x.a3 x.n3 x.c3, .slice x.a4 x.n4 x.c4, .slice x.a5 x.n5 x.c5, .slice x.a6 x.n6 x.c6, .slice x.a7 x.n7 x.c7, .slice x.a8 x.n8 x.c8, .slice ar 3 cr, err], .int .i64 1, .agg #[a3.office, a3.hour, a3.inn, a3.out, a3.store, a3.prev, a3.e, a3.s], .agg #[a4.office, a4.hour, a4.inn, a4.out, a4.store, a4.prev, a4.e, a4.s]] w0 (RetB q w0)) := hD (fun w0 => by rw [hq]; exact rborder x ar cr err room ps pubs 1 a3 a4 w0 HI.out.e0 (by omega) HN2.out.1.2.1 HN3.out.1.1); clear hq; go_upto_region 15 with fail; refine wrd (S := RowsS w _) (HR1.out.drew) (fun yH => ?_); refine tn 0 ?_; refine tn 1 ?_; refine tn 2 ?_; refine tn 3 ?_; refine tn 4 ?_; refine tn 5 ?_ (hx := cx fun _ h => h.cell 1 0 rfl rfl); refine tn 6 ?_; refine tn 7 ?_; refine tn 8 ?_; refine tn 9 ?_ (hx := ldw 0 undBn infoBn); refine tn 10 ?_; refine tn 11 ?_; refine tn 12 ?_ (hx := ldr HRG0 hbl undCm infoCm); refine tn 13 ?_; refine tn 14 ?_; refine tn 15 ?_ (hx := ldr HRG1 hbl undCm infoCm)
        cases hv1 : bordB (judgeV err room ps pubs) 0 a1 a2 with
        | true =>
         have HBv : Hid (bordB (judgeV err room ps pubs) 0 a1 a2 = true) := hD hv1; have HP1 : Hid (∀ w0, Calls Tryz.prog 41 #[.agg #[x.nm, .slice x.a1 x.n1 x.c1, x.k, .slice x.a3 x.n3 x.c3, .slice x.a4 x.n4 x.c4, .slice x.a5 x.n5 x.c5, .slice x.a6 x.n6 x.c6, .slice x.a7 x.n7 x.c7, .slice x.a8 x.n8 x.c8, .slice ar 3 cr, err], (), .agg #[a1.office, a1.hour, a1.inn, a1.out, a1.store, a1.prev, a1.e, a1.s], .agg #[a2.office, a2.hour, a2.inn, a2.out, a2.store, a2.prev, a2.e, a2.s]] w0 (RetB true w0)) := hD (fun w0 => by rw [← hv1]; exact rborder x ar cr err room ps pubs 0 a1 a2 w0 HI.out.e0 (by omega) HN0.out.1.2.1 HN1.out.1.1); clear hv1; refine rd1 16 (fun K hK => ?_); go_simp; refine (HP1.out _).mono ?_; rintro e w' ⟨rfl, hb⟩; refine hK.out _ _ (yH.step hb) (fun yH => ?_); clear hK K; refine tn 17 ?_; refine tn 18 ?_; refine tn 19 ?_ (hx := ldw 0 undBn infoBn); refine tn 20 ?_; refine tn 21 ?_; refine tn 22 ?_ (hx := ldr HRG2 hbl undCm infoCm); refine tn 23 ?_; refine tn 24 ?_; refine tn 25 ?_ (hx := ldr HRG3 hbl undCm infoCm); refine rd1 26 (fun K hK => ?_); go_simp; refine (HP2.out _).mono ?_; rintro e w' ⟨rfl, hb⟩; refine hK.out _ _ (yH.step hb) (fun yH => ?_); clear hK K; refine tn 27 ?_; refine tn 28 ?_; refine rdn ?_; have HT : Hid (checkB (judgeV err room ps pubs) ⟨1, 4, [a1, a2, a3, a4], xp⟩ = q) := hD (by rw [ckMiddle HK0.out HK1.out HK2.out HK3.out, HBv.out, ← HQ4.out]; rfl); go_wp2_with fail; go_ret; exact retB_mk HT.out yH.below
        | false =>
         have HBv : Hid (bordB (judgeV err room ps pubs) 0 a1 a2 = false) := hD hv1; have HP1 : Hid (∀ w0, Calls Tryz.prog 41 #[.agg #[x.nm, .slice x.a1 x.n1 x.c1, x.k, .slice x.a3 x.n3 x.c3, .slice x.a4 x.n4 x.c4, .slice x.a5 x.n5 x.c5, .slice x.a6 x.n6 x.c6, .slice x.a7 x.n7 x.c7, .slice x.a8 x.n8 x.c8, .slice ar 3 cr, err], (), .agg #[a1.office, a1.hour, a1.inn, a1.out, a1.store, a1.prev, a1.e, a1.s], .agg #[a2.office, a2.hour, a2.inn, a2.out, a2.store, a2.prev, a2.e, a2.s]] w0 (RetB false w0)) := hD (fun w0 => by rw [← hv1]; exact rborder x ar cr err room ps pubs 0 a1 a2 w0 HI.out.e0 (by omega) HN0.out.1.2.1 HN1.out.1.1); clear hv1; refine rd1 16 (fun K hK => ?_); go_simp; refine (HP1.out _).mono ?_; rintro e w' ⟨rfl, hb⟩; refine hK.out _ _ (yH.step hb) (fun yH => ?_); clear hK K; refine tn 17 ?_; refine tn 18 ?_; refine skn 2 [(19, some 85), (20, some 86), (21, some 87), (22, some 88), (23, some 89), (24, some 90), (25, some 91), (26, some 92)] ?_; refine tn 27 ?_; refine tn 28 ?_; refine rdn ?_; have HT : Hid (checkB (judgeV err room ps pubs) ⟨1, 4, [a1, a2, a3, a4], xp⟩ = false) := hD (by rw [ckMiddle HK0.out HK1.out HK2.out HK3.out, HBv.out]; rfl); go_wp2_with fail; go_ret; exact retB_mk HT.out yH.below
       ·
        have HT : Hid (checkB (judgeV err room ps pubs) ⟨xo, 4, [a1, a2, a3, a4], xp⟩ = false) := hD (ckMid ho); have qa : (xo == 1) = false := by rw [beq_eq_false_iff_ne]; exact ho
        have qb : decide (xo = 1) = false := decide_eq_false ho; clear ho; go_upto_region 15 with fail; refine wrd (S := RowsS w _) (HR1.out.drew) (fun yH => ?_); refine tn 0 ?_; refine tn 1 ?_; refine tn 2 ?_; refine tn 3 ?_; refine tn 4 ?_; refine tn 5 ?_ (hx := cx fun _ h => h.cell 1 0 rfl rfl); refine tn 6 ?_; refine tn 7 ?_; refine tn 8 ?_; refine skn 12 [(9, some 75), (10, some 76), (11, some 77), (12, some 78), (13, some 79), (14, some 80), (15, some 81), (16, some 82)] ?_; refine tn 17 ?_; refine tn 18 ?_; refine skn 2 [(19, some 85), (20, some 86), (21, some 87), (22, some 88), (23, some 89), (24, some 90), (25, some 91), (26, some 92)] ?_; refine tn 27 ?_; refine tn 28 ?_; refine rdn ?_; go_wp2_with fail; go_ret; exact retB_mk HT.out yH.below
      ·
       have HT : Hid (checkB (judgeV err room ps pubs) ⟨xo, 4, xc, xp⟩ = false) := hD (ckLen4 hn); have qa : ((xc.length : Int) == 4) = false := by rw [beq_eq_false_iff_ne]; omega
       have qb : decide ((xc.length : Int) = 4) = false := decide_eq_false (by omega); have qc : (xc.length == 4) = false := by rw [beq_eq_false_iff_ne]; exact hn
       clear hn; go_upto_region 15 with fail; refine wrd (S := RowsS w _) (HR1.out.drew) (fun yH => ?_); refine tn 0 ?_; refine tn 1 ?_; refine tn 2 ?_; refine tn 3 ?_; refine skn 22 [(4, some 70), (5, some 71), (6, some 72)] ?_; refine tn 7 ?_; refine tn 8 ?_; refine skn 12 [(9, some 75), (10, some 76), (11, some 77), (12, some 78), (13, some 79), (14, some 80), (15, some 81), (16, some 82)] ?_; refine tn 17 ?_; refine tn 18 ?_; refine skn 2 [(19, some 85), (20, some 86), (21, some 87), (22, some 88), (23, some 89), (24, some 90), (25, some 91), (26, some 92)] ?_; refine tn 27 ?_; refine tn 28 ?_; refine rdn ?_; go_wp2_with fail; go_ret; exact retB_mk HT.out yH.below
     ·
      by_cases h5 : xw = 5
      ·
       subst h5; clear hw; by_cases hn : xc.length = 2
       ·
        obtain ⟨c, d, rfl⟩ : ∃ c d, xc = [c, d] := len2 hn; clear hn; obtain ⟨b, oo, cs, rfl, hbl, -, hrg, hcs, -⟩ := HL.out.at (j := 0) (x := c) rfl; unfold cellsC at hcs; subst hcs; have HRG0 := hD hrg; clear hrg; obtain ⟨b2, o2, cs, ha, -, -, hrg, hcs, -⟩ := HL.out.at (j := 1) (x := d) rfl; simp only [Option.some.injEq, Addr.mk.injEq, and_true] at ha; obtain ⟨rfl, rfl⟩ := ha; unfold cellsC at hcs; subst hcs; have HRG1 := hD hrg; clear hrg; have HK0 := hD (HKA.out c (by simp)); have HN0 := hD (kB_num HK0.out); have HK1 := hD (HKA.out d (by simp)); have HN1 := hD (kB_num HK1.out); simp only [List.length_cons, List.length_nil, Nat.zero_add, Nat.reduceAdd] at *; by_cases ho : xp.office = xo
        ·
         subst ho; obtain ⟨q, hq⟩ : ∃ q, q = (decide (c.office = xp.office) && decide (d.office = xp.office) && brkB (judgeV err room ps pubs) xp c d) := ⟨_, rfl⟩; have HQ4 := hD hq; clear hq; go_upto_region 17 with fail; refine wrd (S := RowsS w _) (HR1.out.drew) (fun yH => ?_); refine tn 0 ?_; refine tn 1 ?_; refine tn 2 ?_; refine tn 3 ?_; refine tn 4 ?_; refine tn 5 ?_; refine tn 6 ?_ (hx := cx fun _ h => h.cell 1 3 rfl rfl); refine tn 7 ?_; refine tn 8 ?_ (hx := cx fun _ h => h.cell 1 0 rfl rfl); refine tn 9 ?_; refine tn 10 ?_; refine tn 11 ?_; refine tn 12 ?_; refine tn 13 ?_; refine tn 14 ?_ (hx := fun wz hSw => by refine exec_load_range 38 _ rfl _ _ ?_ _ _ (rangeN (hSw.row 1 rfl) 3 [.int .i64 xp.office, .int .i64 xp.since, .int .i64 xp.till, .int .i64 xp.litres, .int .i64 xp.e, .int .i64 xp.s] rfl) undPm rfl infoPm; exact rfl)
         cases hv1 : vB ps xp with
         | true =>
          have HBv : Hid (vB ps xp = true) := hD hv1; have HP1 : Hid (∀ w0, Below w.heap.size w w0 → Calls Tryz.prog 36 #[.slice ap 3 cp, .agg #[xp.office, xp.since, xp.till, xp.litres, xp.e, xp.s]] w0 (RetB true w0)) := hD (fun w0 hb => by rw [← hv1]; exact rvow ps ap cp xp w0 (by rw [HI.out.lp]; exact HI.out.lpubs.below stays_int hb) HI.out.lp HOx.out); have HP2 : Hid (∀ w0, Calls Tryz.prog 42 #[.agg #[x.nm, .slice x.a1 x.n1 x.c1, x.k, .slice x.a3 x.n3 x.c3, .slice x.a4 x.n4 x.c4, .slice x.a5 x.n5 x.c5, .slice x.a6 x.n6 x.c6, .slice x.a7 x.n7 x.c7, .slice x.a8 x.n8 x.c8, .slice ar 3 cr, err], .agg #[xp.office, xp.since, xp.till, xp.litres, xp.e, xp.s], .agg #[c.office, c.hour, c.inn, c.out, c.store, c.prev, c.e, c.s], .agg #[d.office, d.hour, d.inn, d.out, d.store, d.prev, d.e, d.s]] w0 (RetB q w0)) := hD (fun w0 => by rw [HQ4.out]; exact rbroken x ar cr err room ps pubs xp c d w0 HI.out.e0 HN0.out.1 HN1.out.1 (vB_num hv1).1); clear hv1; refine rd1 15 (fun K hK => ?_); go_simp; refine (HP1.out _ yH.below).mono ?_; rintro e w' ⟨rfl, hb⟩; refine hK.out _ _ (yH.step hb) (fun yH => ?_); clear hK K; refine tn 16 ?_; refine tn 17 ?_; refine tn 18 ?_ (hx := ldw 0 undBn infoBn); refine tn 19 ?_; refine tn 20 ?_ (hx := fun wz hSw => by refine exec_load_range 38 _ rfl _ _ ?_ _ _ (rangeN (hSw.row 1 rfl) 3 [.int .i64 xp.office, .int .i64 xp.since, .int .i64 xp.till, .int .i64 xp.litres, .int .i64 xp.e, .int .i64 xp.s] rfl) undPm rfl infoPm; exact rfl); refine tn 21 ?_; refine tn 22 ?_; refine tn 23 ?_ (hx := ldr HRG0 hbl undCm infoCm)
          refine tn 24 ?_; refine tn 25 ?_; refine tn 26 ?_ (hx := ldr HRG1 hbl undCm infoCm); refine rd1 27 (fun K hK => ?_); go_simp; refine (HP2.out _).mono ?_; rintro e w' ⟨rfl, hb⟩; refine hK.out _ _ (yH.step hb) (fun yH => ?_); clear hK K; refine tn 28 ?_; refine tn 29 ?_; refine rdn ?_; have HT : Hid (checkB (judgeV err room ps pubs) ⟨xp.office, 5, [c, d], xp⟩ = q) := hD (by rw [ckProm HK0.out HK1.out HN0.out.2.1, show ((judgeV err room ps pubs)).V xp = vB ps xp from rfl, HBv.out, ← HQ4.out]; rfl); go_wp2_with fail; go_ret; exact retB_mk HT.out yH.below
         | false =>
          have HBv : Hid (vB ps xp = false) := hD hv1; have HP1 : Hid (∀ w0, Below w.heap.size w w0 → Calls Tryz.prog 36 #[.slice ap 3 cp, .agg #[xp.office, xp.since, xp.till, xp.litres, xp.e, xp.s]] w0 (RetB false w0)) := hD (fun w0 hb => by rw [← hv1]; exact rvow ps ap cp xp w0 (by rw [HI.out.lp]; exact HI.out.lpubs.below stays_int hb) HI.out.lp HOx.out); clear hv1; refine rd1 15 (fun K hK => ?_); go_simp; refine (HP1.out _ yH.below).mono ?_; rintro e w' ⟨rfl, hb⟩; refine hK.out _ _ (yH.step hb) (fun yH => ?_); clear hK K; refine tn 16 ?_; refine tn 17 ?_; refine skn 2 [(18, some 114), (19, some 115), (20, some 116), (21, some 117), (22, some 118), (23, some 119), (24, some 120), (25, some 121), (26, some 122), (27, some 123)] ?_; refine tn 28 ?_; refine tn 29 ?_; refine rdn ?_; have HT : Hid (checkB (judgeV err room ps pubs) ⟨xp.office, 5, [c, d], xp⟩ = false) := hD (by rw [ckProm HK0.out HK1.out HN0.out.2.1, show ((judgeV err room ps pubs)).V xp = vB ps xp from rfl, HBv.out]; rfl); go_wp2_with fail; go_ret; exact retB_mk HT.out yH.below
        ·
         have HT : Hid (checkB (judgeV err room ps pubs) ⟨xo, 5, [c, d], xp⟩ = false) := hD (ckProm2 ho); have qa : (xp.office == xo) = false := by rw [beq_eq_false_iff_ne]; exact ho
         have qb : decide (xp.office = xo) = false := decide_eq_false ho; clear ho; go_upto_region 17 with fail; refine wrd (S := RowsS w _) (HR1.out.drew) (fun yH => ?_); refine tn 0 ?_; refine tn 1 ?_; refine tn 2 ?_; refine tn 3 ?_; refine tn 4 ?_; refine tn 5 ?_; refine tn 6 ?_ (hx := cx fun _ h => h.cell 1 3 rfl rfl); refine tn 7 ?_; refine tn 8 ?_ (hx := cx fun _ h => h.cell 1 0 rfl rfl); refine tn 9 ?_; refine tn 10 ?_; refine tn 11 ?_; refine skn 14 [(12, some 108), (13, some 109), (14, some 110), (15, some 111)] ?_; refine tn 16 ?_; refine tn 17 ?_; refine skn 2 [(18, some 114), (19, some 115), (20, some 116), (21, some 117), (22, some 118), (23, some 119), (24, some 120), (25, some 121), (26, some 122), (27, some 123)] ?_; refine tn 28 ?_; refine tn 29 ?_; refine rdn ?_; go_wp2_with fail; go_ret; exact retB_mk HT.out yH.below
       ·
        have HT : Hid (checkB (judgeV err room ps pubs) ⟨xo, 5, xc, xp⟩ = false) := hD (ckLen (by decide) hn); have qa : ((xc.length : Int) == 2) = false := by rw [beq_eq_false_iff_ne]; omega
        have qb : decide ((xc.length : Int) = 2) = false := decide_eq_false (by omega); have qc : (xc.length == 2) = false := by rw [beq_eq_false_iff_ne]; exact hn
        clear hn; go_upto_region 17 with fail; refine wrd (S := RowsS w _) (HR1.out.drew) (fun yH => ?_); refine tn 0 ?_; refine tn 1 ?_; refine tn 2 ?_; refine tn 3 ?_; refine skn 20 [(4, some 100), (5, some 101), (6, some 102), (7, some 103), (8, some 104), (9, some 105)] ?_; refine tn 10 ?_; refine tn 11 ?_; refine skn 14 [(12, some 108), (13, some 109), (14, some 110), (15, some 111)] ?_; refine tn 16 ?_; refine tn 17 ?_; refine skn 2 [(18, some 114), (19, some 115), (20, some 116), (21, some 117), (22, some 118), (23, some 119), (24, some 120), (25, some 121), (26, some 122), (27, some 123)] ?_; refine tn 28 ?_; refine tn 29 ?_; refine rdn ?_; go_wp2_with fail; go_ret; exact retB_mk HT.out yH.below
      ·
       have HT : Hid (checkB (judgeV err room ps pubs) ⟨xo, xw, xc, xp⟩ = false) := hD (by
        refine check_why ?_; show xw < 0 ∨ 6 ≤ xw
        omega)
       have q0a : (xw == 0) = false := by rw [beq_eq_false_iff_ne]; omega
       have q0b : decide (xw = 0) = false := decide_eq_false (by omega); have q1a : (xw == 1) = false := by rw [beq_eq_false_iff_ne]; omega
       have q1b : decide (xw = 1) = false := decide_eq_false (by omega); have q2a : (xw == 2) = false := by rw [beq_eq_false_iff_ne]; omega
       have q2b : decide (xw = 2) = false := decide_eq_false (by omega); have q3a : (xw == 3) = false := by rw [beq_eq_false_iff_ne]; omega
       have q3b : decide (xw = 3) = false := decide_eq_false (by omega); have q4a : (xw == 4) = false := by rw [beq_eq_false_iff_ne]; omega
       have q4b : decide (xw = 4) = false := decide_eq_false (by omega); have q5a : (xw == 5) = false := by rw [beq_eq_false_iff_ne]; omega
       have q5b : decide (xw = 5) = false := decide_eq_false (by omega); clear hw h2 h4 h5; go_wp2_with fail; go_ret; exact retB_mk HT.out HR1.out.below
end Go.Proofs.YtjbjpkhibcnenaaGreatDoor

