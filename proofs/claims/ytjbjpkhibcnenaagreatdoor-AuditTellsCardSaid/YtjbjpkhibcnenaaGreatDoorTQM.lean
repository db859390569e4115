/- The reference of package audit: vowed. -/
import Derived.Test.YtjbjpkhibcnenaaGreatDoorTQL
import Derived.Test.YtjbjpkhibcnenaaGreatDoorAFindH
namespace Go.Proofs.YtjbjpkhibcnenaaGreatDoor
set_option maxRecDepth 100000
set_option maxHeartbeats 16000000
open Go.RowKit
theorem RowsS.swap {w c : World} {a b : Nat × Obj} {rs : List (Nat × Obj)} (h : RowsS w (a :: b :: rs) c) : RowsS w (b :: a :: rs) c := by
 obtain ⟨h1, ha, ga, na⟩ := h.split; obtain ⟨h2, hb, gb, nb⟩ := h1.split; have na2 : a.1 ∉ rs.map (·.1) := fun e => na (by rw [List.map_cons]; exact List.mem_cons_of_mem _ e); have nab : a.1 ≠ b.1 := fun e => na (by rw [List.map_cons, e]; exact List.mem_cons_self ..); have h3 := h2.cons (b := a.1) (o := a.2) ha ga na2; refine h3.cons (b := b.1) (o := b.2) hb gb ?_; rw [List.map_cons, List.mem_cons]; rintro (e | e)
 · exact nab e.symm
 · exact nb e
theorem vowedR_none {J : JV} {L : List CV} {vs : List PV} {o : Int} (h : ∀ (i : Nat) (p : PV), i < vs.length → vs[i]? = some p → p.office = o → first2 (brokB J p) L L = none) : vowedR J L vs o = none := by
 unfold vowedR; rw [List.findSome?_eq_none_iff]; intro p hp; obtain ⟨i, hi⟩ := List.getElem?_of_mem hp
 split
 · next e => rw [h i p (List.getElem?_eq_some_iff.1 hi).1 hi e]; rfl
 · rfl
theorem vowedR_some {J : JV} {L : List CV} {vs : List PV} {o : Int} {k : Nat} {p : PV} {x y : CV} (h : ∀ (i : Nat) (p : PV), i < k → vs[i]? = some p → p.office = o → first2 (brokB J p) L L = none) (hp : vs[k]? = some p) (ho : p.office = o) (hf : first2 (brokB J p) L L = some (x, y)) : vowedR J L vs o = some ⟨o, 5, [x, y], p⟩ := by
 have e1 : vs = vs.take k ++ p :: vs.drop (k + 1) := by
  obtain ⟨hk, e⟩ := List.getElem?_eq_some_iff.1 hp; rw [← e, List.getElem_cons_drop, List.take_append_drop]
 have h0 : vowedR J L (vs.take k) o = none := vowedR_none (fun i q hi hq => by
  rw [List.getElem?_take] at hq
  split at hq
  · exact h i q (by assumption) hq
  · cases hq)
 unfold vowedR at h0 ⊢; rw [e1, List.findSome?_append, h0, List.findSome?_cons, if_pos ho, hf]
 rfl
theorem rvowed (x : BsX) (ar : Option Addr) (cr : Nat) (err : Int) (room ps : List Int) (pubs : List PublicV) (o : Int) (l : List CV) (al : Option Addr) (nl : Nat) (vs : List PV) (av : Option Addr) (nv : Nat) (w : World) (hl : LArg RC 8 (.slice al l.length nl) l w) (hll : l.length ≤ 1000) (hv : LArg RP 6 (.slice av vs.length nv) vs w) (hvl : vs.length ≤ 1000) (he : 0 ≤ err ∧ err ≤ 1099511627776) (hk : ∀ c ∈ l, CNum c) (hvn : ∀ p ∈ vs, -1152921504606846976 ≤ p.litres ∧ p.litres ≤ 1152921504606846976) : Calls Tryz.prog 38 #[.agg #[x.nm, .slice x.a1 x.n1 x.c1, x.k, .slice x.a3 x.n3 x.c3, .slice x.a4 x.n4 x.c4, .slice x.a5 x.n5 x.c5, .slice x.a6 x.n6 x.c6, .slice x.a7 x.n7 x.c7, .slice x.a8 x.n8 x.c8, .slice ar 3 cr, err], .slice al l.length nl, .slice av vs.length nv, o] w (RetF (vowedR (judgeV err room ps pubs) l vs o) w) := by
 have HL := hD hl; have HV := hD hv; have HP0 : Hid (∀ p ∈ vs, ∀ (w0 : World), ∀ c ∈ l, ∀ d ∈ l, Calls Tryz.prog 42 #[.agg #[x.nm, .slice x.a1 x.n1 x.c1, x.k, .slice x.a3 x.n3 x.c3, .slice x.a4 x.n4 x.c4, .slice x.a5 x.n5 x.c5, .slice x.a6 x.n6 x.c6, .slice x.a7 x.n7 x.c7, .slice x.a8 x.n8 x.c8, .slice ar 3 cr, err], .agg #[p.office, p.since, p.till, p.litres, p.e, p.s], .agg #[c.office, c.hour, c.inn, c.out, c.store, c.prev, c.e, c.s], .agg #[d.office, d.hour, d.inn, d.out, d.store, d.prev, d.e, d.s]] w0 (RetB ((brokB (judgeV err room ps pubs) p) c d) w0)) := hD (fun p hp w0 c hc d hd => rbroken x ar cr err room ps pubs p c d w0 he (hk c hc) (hk d hd) (hvn p hp)); obtain ⟨w0, hw0, hR0⟩ := RowsS.twoE w (.cells #[x.nm, .slice x.a1 x.n1 x.c1, x.k, .slice x.a3 x.n3 x.c3, .slice x.a4 x.n4 x.c4, .slice x.a5 x.n5 x.c5, .slice x.a6 x.n6 x.c6, .slice x.a7 x.n7 x.c7, .slice x.a8 x.n8 x.c8, .slice ar 3 cr, err] 31) (.cells #[(), (), .slice none 0 0, (), (), (), (), (), ()] 40); have HR := hD hR0; have HW0 := hD hw0; clear hR0 hw0; clear hl hv he hk hvn; go_enter Tryz.func38, Tryz.ntmps38; go_upto_region 1 with fail; rw [HW0.out]; go_wp2_with fail; go_loopw [10] (fun iv wx => ∃ k : Nat, k ≤ vs.length ∧ iv = .int .i64 k ∧ (∀ (i : Nat) (p : PV), i < k → vs[i]? = some p → p.office = o → first2 (brokB (judgeV err room ps pubs) p) l l = none) ∧ RowsS w [(w.heap.size, .cells #[x.nm, .slice x.a1 x.n1 x.c1, x.k, .slice x.a3 x.n3 x.c3, .slice x.a4 x.n4 x.c4, .slice x.a5 x.n5 x.c5, .slice x.a6 x.n6 x.c6, .slice x.a7 x.n7 x.c7, .slice x.a8 x.n8 x.c8, .slice ar 3 cr, err] 31), ((w.heap.size + 1), .cells #[(), (), .slice none 0 0, (), (), (), (), (), ()] 40)] wx) (fun iv _ => vs.length - (Go.RowKit.intOf iv).toNat)
 case atStart => exact ⟨0, Nat.zero_le _, rfl, fun i x h => absurd h (Nat.not_lt_zero _), HR.out⟩
 case round =>
  obtain ⟨k, hk, rfl, hno, hr⟩ := hrel; have HNO := hD hno; have HR1 := hD hr; clear hno hr HR; by_cases hlt : k < vs.length
  ·
   obtain ⟨p, hp⟩ : ∃ p, vs[k]? = some p := ⟨_, List.getElem?_eq_getElem hlt⟩; obtain ⟨PP, hPP⟩ : ∃ PP : CV → CV → Bool, PP = (brokB (judgeV err room ps pubs) p) := ⟨_, rfl⟩; have HPPe := hD hPP; have HPD : Hid (∀ (w0 : World), ∀ c ∈ l, ∀ d ∈ l, Calls Tryz.prog 42 #[.agg #[x.nm, .slice x.a1 x.n1 x.c1, x.k, .slice x.a3 x.n3 x.c3, .slice x.a4 x.n4 x.c4, .slice x.a5 x.n5 x.c5, .slice x.a6 x.n6 x.c6, .slice x.a7 x.n7 x.c7, .slice x.a8 x.n8 x.c8, .slice ar 3 cr, err], .agg #[p.office, p.since, p.till, p.litres, p.e, p.s], .agg #[c.office, c.hour, c.inn, c.out, c.store, c.prev, c.e, c.s], .agg #[d.office, d.hour, d.inn, d.out, d.store, d.prev, d.e, d.s]] w0 (RetB (PP c d) w0)) := hD (fun w0 => by rw [hPP]; exact HP0.out p (List.mem_of_getElem? hp) w0); obtain ⟨b, ob, cs, rfl, hblv, -, hrg, hcs, -⟩ := HV.out.at hp; unfold cellsP at hcs; subst hcs; have HRG := hD (rangeAt_below hrg HR1.out.below hblv); have HP := hD hp; have HR2 := hD (HR1.out.alloc (.cells #[p.office, p.since, p.till, p.litres, p.e, p.s] 38)); clear hp hrg HR1 hPP; go_upto_region 5 with (refine lRG HRG.out undPm infoPm ?_); clear HRG; generalize wr.alloc (.cells #[p.office, p.since, p.till, p.litres, p.e, p.s] 38) = w2 at *; generalize wr.heap.size = bP at *; go_wp2_with fail; go_loopw [12] (fun iv wx => ∃ i : Nat, i ≤ l.length ∧ iv = .int .i64 i ∧ (p.office ≠ o → i = 0) ∧ (∀ (q : Nat) (x : CV), q < i → l[q]? = some x → ∀ y ∈ l, PP x y = false) ∧ RowsS w [(w.heap.size, .cells #[x.nm, .slice x.a1 x.n1 x.c1, x.k, .slice x.a3 x.n3 x.c3, .slice x.a4 x.n4 x.c4, .slice x.a5 x.n5 x.c5, .slice x.a6 x.n6 x.c6, .slice x.a7 x.n7 x.c7, .slice x.a8 x.n8 x.c8, .slice ar 3 cr, err] 31), ((w.heap.size + 1), .cells #[(), (), .slice none 0 0, (), (), (), (), (), ()] 40), (bP, .cells #[p.office, p.since, p.till, p.litres, p.e, p.s] 38)] wx) (fun iv _ => l.length - (Go.RowKit.intOf iv).toNat)
   case atStart => exact ⟨0, Nat.zero_le _, rfl, fun _ => rfl, fun i x h => absurd h (Nat.not_lt_zero _), HR2.out⟩
   case round =>
    obtain ⟨i, hi, rfl, hz, hni, hr⟩ := hrel; have HNI := hD hni; have HZ := hD hz; have HR3 := hD hr; clear hni hz hr HR2; have p0 := HR3.out.cell 2 0 rfl rfl; by_cases hli : i < l.length
    ·
     by_cases ho : p.office = o
     ·
      have q2 : (p.office == o) = true := by rw [beq_iff_eq]; exact ho
      have q3 : decide (p.office = o) = true := decide_eq_true ho; have HO := hD ho; clear ho; obtain ⟨c, hc⟩ : ∃ c, l[i]? = some c := ⟨_, List.getElem?_eq_getElem hli⟩; obtain ⟨b, o1, cs, rfl, hbl, -, hrg, hcs, hcg⟩ := HL.out.at hc; unfold cellsC at hcs; subst hcs; have HRG1 := hD hrg; have HCG := hD hcg; have HC := hD hc; clear hc hrg hcg; go_upto_region 8 with fail; clear p0 q2 q3; go_wp2_with fail; go_loopw [13] (fun iv wx => ∃ j : Nat, j ≤ l.length ∧ iv = .int .i64 j ∧ (∀ (q : Nat) (y : CV), q < j → l[q]? = some y → PP c y = false) ∧ RowsS w [(w.heap.size, .cells #[x.nm, .slice x.a1 x.n1 x.c1, x.k, .slice x.a3 x.n3 x.c3, .slice x.a4 x.n4 x.c4, .slice x.a5 x.n5 x.c5, .slice x.a6 x.n6 x.c6, .slice x.a7 x.n7 x.c7, .slice x.a8 x.n8 x.c8, .slice ar 3 cr, err] 31), ((w.heap.size + 1), .cells #[(), (), .slice none 0 0, (), (), (), (), (), ()] 40), (bP, .cells #[p.office, p.since, p.till, p.litres, p.e, p.s] 38)] wx) (fun iv _ => l.length - (Go.RowKit.intOf iv).toNat)
      case atStart => exact ⟨0, Nat.zero_le _, rfl, fun i x h => absurd h (Nat.not_lt_zero _), HR3.out⟩
      case round =>
       clear HR3; obtain ⟨j, hj, rfl, hnd, hr⟩ := hrel; have HND := hD hnd; have HR3 := hD hr; clear hnd hr; by_cases hlj : j < l.length
       ·
        obtain ⟨d, hd⟩ : ∃ d, l[j]? = some d := ⟨_, List.getElem?_eq_getElem hlj⟩; obtain ⟨b2, o2, cs, ha, hbm, -, hrg, hcs, hdg⟩ := HL.out.at hd; simp only [Option.some.injEq, Addr.mk.injEq, and_true] at ha; obtain ⟨rfl, rfl⟩ := ha; unfold cellsC at hcs; subst hcs; have HRG2 := hD hrg; have HDG := hD hdg; have HD := hD hd; have HPc : Hid (∀ w0, Below w.heap.size w w0 → Calls Tryz.prog 42 #[.agg #[x.nm, .slice x.a1 x.n1 x.c1, x.k, .slice x.a3 x.n3 x.c3, .slice x.a4 x.n4 x.c4, .slice x.a5 x.n5 x.c5, .slice x.a6 x.n6 x.c6, .slice x.a7 x.n7 x.c7, .slice x.a8 x.n8 x.c8, .slice ar 3 cr, err], .agg #[p.office, p.since, p.till, p.litres, p.e, p.s], .agg #[c.office, c.hour, c.inn, c.out, c.store, c.prev, c.e, c.s], .agg #[d.office, d.hour, d.inn, d.out, d.store, d.prev, d.e, d.s]] w0 (RetB (PP c d) w0)) := hD (fun w0 _ => HPD.out w0 c (List.mem_of_getElem? HC.out) d (List.mem_of_getElem? hd)); obtain ⟨q, hq⟩ : ∃ q, q = PP c d := ⟨_, rfl⟩; rw [← hq] at HPc; clear hd hrg hdg; go_upto_region 11 with fail; refine wrd (S := RowsS w _) (HR3.out.drew) (fun yH => ?_); refine tn 0 ?_ (hx := ldw 0 undBn infoBn); refine tn 1 ?_ (hx := ldw 2 undPm infoPm); refine tn 2 ?_; refine tn 3 ?_; refine tn 4 ?_; refine tn 5 ?_ (hx := ldr HRG1 hbl undCm infoCm); refine tn 6 ?_; refine tn 7 ?_; refine tn 8 ?_; refine tn 9 ?_ (hx := ldr HRG2 hbl undCm infoCm); refine rd1 10 (fun K hK => ?_); go_simp; refine (HPc.out _ yH.below).mono ?_; rintro e w' ⟨rfl, hb⟩; refine hK.out _ _ (yH.step hb) (fun yH => ?_); clear hK K
        refine rdn ?_; have HR5 := hD yH; clear yH HR3 HPc; rw [hq]; clear hq
        cases hpp : PP c d with
        | true =>
         have HF := hD (vowedR_some HNO.out HP.out HO.out (by rw [← HPPe.out]; exact first2_found HNI.out HC.out HND.out HD.out hpp)); clear hpp; go_upto_region 12 with fail; obtain ⟨hRs, hZR, hgR, hnR⟩ := HR5.out.swap.split; clear HR5; refine wrd (S := RowsS w _) (hRs.drew) (fun yH => ?_); refine tn 0 ?_; refine tn 1 ?_; refine tn 2 ?_; refine tn 3 ?_; refine tn 4 ?_ (hx := ldr HRG1 hbl undCm infoCm); refine tn 5 ?_; refine tn 6 ?_; refine tn 7 ?_; refine tn 8 ?_ (hx := ldr HRG2 hbl undCm infoCm); refine tn 10 ?_ (hx := ldw 1 undPm infoPm); refine rd1 9 (fun K hK => ?_); go_simp; obtain ⟨bl, hbe, hS1, hZL, hgL, hnL, hbA⟩ := yH.allocBD (.cells #[c.office, c.hour, c.inn, c.out, c.store, c.prev, c.e, c.s, d.office, d.hour, d.inn, d.out, d.store, d.prev, d.e, d.s] 63); have hxRL : (w.heap.size + 1) ≠ bl := by rw [hbe]; exact Nat.ne_of_lt (blk_lt hZR)
         have hZR := (hbA.block (w.heap.size + 1) (blk_lt hZR)).trans hZR; (try simp only [World.alloc, Array.size_push] at hbe); rw [← hbe]; refine hK.out _ _ hS1 (fun yH => ?_); clear hK K hS1 hbe hbA; refine tn 11 ?_; refine rd1 12 (fun K hK => ?_); rw [if_pos (by rfl)]; refine wp_store_row 40 _ _ rfl (w.heap.size + 1) #[o, .int .i64 5, .slice (some ⟨bl, 0, none⟩) 2 2, p.office, p.since, p.till, p.litres, p.e, p.s] rfl rfl 40 #[(), (), .slice none 0 0, (), (), (), (), (), ()] hZR infoBl rfl (by simp [Value.oneCell']) ?_; have hZL := (setRow_other _ (w.heap.size + 1) bl #[.int .i64 o, .int .i64 5, .slice (some ⟨bl, 0, none⟩) 2 2, .int .i64 p.office, .int .i64 p.since, .int .i64 p.till, .int .i64 p.litres, .int .i64 p.e, .int .i64 p.s] (hxRL.symm)).trans hZL; have hZR := setRow_heap _ _ _ #[.int .i64 o, .int .i64 5, .slice (some ⟨bl, 0, none⟩) 2 2, .int .i64 p.office, .int .i64 p.since, .int .i64 p.till, .int .i64 p.litres, .int .i64 p.e, .int .i64 p.s] _ _ hZR; refine hK.out _ _ (yH.setOther hgR hnR _) (fun yH => ?_); clear hK K; refine tn 13 ?_; refine rdn ?_; go_wp2_with fail
         exact bpr hZR undBl infoBl (retF_some (p := p) HF.out (larg_rowC (l := [c, d]) hZL (by
          intro z hz; simp only [List.mem_cons, List.not_mem_nil, or_false] at hz; rcases hz with rfl | rfl
          · exact HCG.out
          · exact HDG.out) (by simp)) hgL yH.below)
        | false =>
         have HN2 : Hid (∀ (q : Nat) (y : CV), q < j + 1 → l[q]? = some y → PP c y = false) := hD (fun q y hi hy => by
          by_cases e : q = j
          · subst e; rw [HD.out] at hy; cases hy; exact hpp
          · exact HND.out q y (by omega) hy)
         clear hpp; go_wp2_with fail; go_roundw
         case rel => exact ⟨j + 1, by omega, by go_num, HN2.out, HR5.out⟩
         case measure => simp [Go.RowKit.intOf]; omega
       ·
        have HN3 : Hid (∀ (q : Nat) (x : CV), q < i + 1 → l[q]? = some x → ∀ y ∈ l, PP x y = false) := hD (fun q x hi hx y hy => by
         by_cases e : q = i
         ·
          subst e; rw [HC.out] at hx
          cases hx
          obtain ⟨t, ht⟩ := List.getElem?_of_mem hy; exact HND.out t y (by have := (List.getElem?_eq_some_iff.1 ht).1; omega) ht
         · exact HNI.out q x (by omega) hx y hy)
        go_wp2_with fail; go_roundw
        case rel => exact ⟨i + 1, by omega, by go_num, fun e => absurd HO.out e, HN3.out, HR3.out⟩
        case measure => simp [Go.RowKit.intOf]; omega
     ·
      have q2 : (p.office == o) = false := by rw [beq_eq_false_iff_ne]; exact ho
      have q3 : decide (p.office = o) = false := decide_eq_false ho
      have HNX : Hid (∀ (i : Nat) (q : PV), i < k + 1 → vs[i]? = some q → q.office = o → first2 (brokB (judgeV err room ps pubs) q) l l = none) := hD (fun i q hi hq hqo => by
       by_cases e : i = k
       · subst e; rw [HP.out] at hq; cases hq; exact absurd hqo ho
       · exact HNO.out i q (by omega) hq hqo)
      have HRX : Hid (RowsS w [(w.heap.size, .cells #[x.nm, .slice x.a1 x.n1 x.c1, x.k, .slice x.a3 x.n3 x.c3, .slice x.a4 x.n4 x.c4, .slice x.a5 x.n5 x.c5, .slice x.a6 x.n6 x.c6, .slice x.a7 x.n7 x.c7, .slice x.a8 x.n8 x.c8, .slice ar 3 cr, err] 31), ((w.heap.size + 1), .cells #[(), (), .slice none 0 0, (), (), (), (), (), ()] 40)] _) := hD (HR3.out.take 2); go_wp2_with fail; go_roundw
      case rel => exact ⟨k + 1, by omega, by go_num, HNX.out, HRX.out⟩
      case measure => simp [Go.RowKit.intOf]; omega
    ·
     have HFN : Hid (first2 PP l l = none) := hD (first2_none (fun q x hq hx => HNI.out q x (by omega) hx))
     have HNX : Hid (∀ (i : Nat) (q : PV), i < k + 1 → vs[i]? = some q → q.office = o → first2 (brokB (judgeV err room ps pubs) q) l l = none) := hD (fun i q hi hq hqo => by
      by_cases e : i = k
      · subst e; rw [HP.out] at hq; cases hq; rw [← HPPe.out]; exact HFN.out
      · exact HNO.out i q (by omega) hq hqo)
     have HRX : Hid (RowsS w [(w.heap.size, .cells #[x.nm, .slice x.a1 x.n1 x.c1, x.k, .slice x.a3 x.n3 x.c3, .slice x.a4 x.n4 x.c4, .slice x.a5 x.n5 x.c5, .slice x.a6 x.n6 x.c6, .slice x.a7 x.n7 x.c7, .slice x.a8 x.n8 x.c8, .slice ar 3 cr, err] 31), ((w.heap.size + 1), .cells #[(), (), .slice none 0 0, (), (), (), (), (), ()] 40)] _) := hD (HR3.out.take 2); go_wp2_with fail; go_roundw
     case rel => exact ⟨k + 1, by omega, by go_num, HNX.out, HRX.out⟩
     case measure => simp [Go.RowKit.intOf]; omega
  ·
   obtain rfl : k = vs.length := by omega
   have HF := hD (vowedR_none HNO.out); clear hlt hk; go_wp2_with (refine sRW #[(), (), .slice none 0 0, (), (), (), (), (), ()] (HR1.out.row 1 rfl) infoBl ?_); have HRZ := hD (HR1.out.set (i := 1) (cs' := #[(), (), .slice none 0 0, (), (), (), (), (), ()]) rfl); exact bpr (HRZ.out.row 1 rfl) undBl infoBl (retF_none HF.out HRZ.out.below)
end Go.Proofs.YtjbjpkhibcnenaaGreatDoor

