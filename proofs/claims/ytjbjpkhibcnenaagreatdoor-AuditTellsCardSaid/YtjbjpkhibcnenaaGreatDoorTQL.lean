/- Texts merged: TQH TQI TQL -/
import Derived.Outline
import Derived.Test.YtjbjpkhibcnenaaGreatDoorTQG
import Derived.Test.YtjbjpkhibcnenaaGreatDoorWList
import Derived.Great.CaseRows
import Derived.Test.YtjbjpkhibcnenaaGreatDoorAPre
/- bourneref45.Same (lines of XCRefC, turned). -/
namespace Go.Proofs.YtjbjpkhibcnenaaGreatDoor
set_option maxRecDepth 100000
set_option maxHeartbeats 4000000
open Go.RowKit
theorem rsame_any (l : List CV) (va vb : Value) (w : World) (hA : LArg RC 8 va l w) (hB : LArg RC 8 vb l w) (hl : l.length ≤ 100) :
 Calls Tryz.prog 34 #[va, vb] w fun e w' => e = .returned (.bool true) ∧ Below w.heap.size w w' := by
 obtain ⟨a1, q1, rfl, -, -⟩ := hA.slice; obtain ⟨a2, q2, rfl, -, -⟩ := hB.slice; have HA := hD hA; have HB := hD hB; clear hA hB; go_enter Tryz.func34, Tryz.ntmps34; go_wp2_with fail; go_loopw [5] (fun iv wr => ∃ k : Nat, k ≤ l.length ∧ iv = .int .i64 k ∧ Below w.heap.size w wr) (fun iv _ => l.length - (Go.RowKit.intOf iv).toNat)
 case atStart => exact ⟨0, Nat.zero_le _, rfl, Below.refl _ _⟩
 case round =>
  obtain ⟨k, hk, rfl, hBw⟩ := hrel; have HW := hD hBw; clear hBw; by_cases hlt : k < l.length
  ·
   obtain ⟨c, hc⟩ : ∃ c, l[k]? = some c := ⟨_, List.getElem?_eq_getElem hlt⟩; obtain ⟨g, o, cs, ha, hbl, -, hrg, hcs⟩ := (HA.out.below stays_RC HW.out).at hc; subst ha; rw [hcs.1] at hrg; obtain ⟨g2, o2, cs2, ha, hbl2, -, hrg2, hcs2⟩ := (HB.out.below stays_RC HW.out).at hc; subst ha; rw [hcs2.1] at hrg2; have c0 : wr.cell? ⟨g, o + k * 8, none⟩ = some (.int .i64 c.office) := hrg 0 _ rfl; have d0 : wr.cell? ⟨g2, o2 + k * 8, none⟩ = some (.int .i64 c.office) := hrg2 0 _ rfl; have c1 : wr.cell? ⟨g, o + k * 8 + 1, none⟩ = some (.int .i64 c.hour) := hrg 1 _ rfl; have d1 : wr.cell? ⟨g2, o2 + k * 8 + 1, none⟩ = some (.int .i64 c.hour) := hrg2 1 _ rfl; have c2 : wr.cell? ⟨g, o + k * 8 + 2, none⟩ = some (.int .i64 c.inn) := hrg 2 _ rfl; have d2 : wr.cell? ⟨g2, o2 + k * 8 + 2, none⟩ = some (.int .i64 c.inn) := hrg2 2 _ rfl; have c3 : wr.cell? ⟨g, o + k * 8 + 3, none⟩ = some (.int .i64 c.out) := hrg 3 _ rfl; have d3 : wr.cell? ⟨g2, o2 + k * 8 + 3, none⟩ = some (.int .i64 c.out) := hrg2 3 _ rfl; have c4 : wr.cell? ⟨g, o + k * 8 + 4, none⟩ = some (.int .i64 c.store) := hrg 4 _ rfl; have d4 : wr.cell? ⟨g2, o2 + k * 8 + 4, none⟩ = some (.int .i64 c.store) := hrg2 4 _ rfl; have c5 : wr.cell? ⟨g, o + k * 8 + 5, none⟩ = some (.string c.prev) := hrg 5 _ rfl; have d5 : wr.cell? ⟨g2, o2 + k * 8 + 5, none⟩ = some (.string c.prev) := hrg2 5 _ rfl; have c6 : wr.cell? ⟨g, o + k * 8 + 6, none⟩ = some (.int .i64 c.e) := hrg 6 _ rfl; have d6 : wr.cell? ⟨g2, o2 + k * 8 + 6, none⟩ = some (.int .i64 c.e) := hrg2 6 _ rfl
   have c7 : wr.cell? ⟨g, o + k * 8 + 7, none⟩ = some (.int .i64 c.s) := hrg 7 _ rfl; have d7 : wr.cell? ⟨g2, o2 + k * 8 + 7, none⟩ = some (.int .i64 c.s) := hrg2 7 _ rfl; have heq := eqC c.office c.hour c.inn c.out c.store c.prev c.e c.s c.office c.hour c.inn c.out c.store c.prev c.e c.s; rw [decide_eq_true ⟨rfl, rfl, rfl, rfl, rfl, rfl, rfl, rfl⟩] at heq; clear hrg hrg2 hcs hcs2 hc HA HB; generalize c.office = x0 at *; generalize c.hour = x1 at *; generalize c.inn = x2 at *; generalize c.out = x3 at *; generalize c.store = x4 at *; generalize c.prev = x5 at *; generalize c.e = x6 at *; generalize c.s = x7 at *; go_upto_region 6 with fail; go_quiet (fail); go_wp2_with fail; go_roundw
   case rel => exact ⟨k + 1, by omega, by go_num, below_drewN HW.out⟩
   case measure => simp [Go.RowKit.intOf]; omega
  ·
   obtain rfl : k = l.length := by omega
   go_wp2_with fail; go_ret; exact ⟨rfl, HW.out⟩
end Go.Proofs.YtjbjpkhibcnenaaGreatDoor
/- The reference of package audit: proof. -/
namespace Go.Proofs.YtjbjpkhibcnenaaGreatDoor
set_option maxRecDepth 100000
set_option maxHeartbeats 16000000
open Go.RowKit
def proofR (J : JV) (o why : Int) (l : List CV) : List CV :=
 if why = 2 then (match l.find? (fun c => decide (c.office = o) && rangeB J c) with | some c => [c] | none => [])
 else if why = 4 then (if o = 1 then (match first2 (bordB J 0) l l, first2 (bordB J 1) l l with | some (c, d), some (e, f) => [c, d, e, f] | _, _ => []) else [])
 else pL (first2 (pairB J o why) l l)
theorem own_base {w : World} {base b2 n s : Nat} {e : TypeId} {v : Value} {xs : List Value} (h : w.ownsRow base e s v n xs) (hb : b2 ≤ base) : w.ownsRow b2 e s v n xs := by
 rcases h with ⟨h1, h2 | ⟨g, cap, cur, e1, e2, e3⟩⟩
 · exact ⟨h1, Or.inl h2⟩
 · exact ⟨h1, Or.inr ⟨g, cap, cur, e1, Nat.le_trans hb e2, e3⟩⟩
theorem own_some {w : World} {base n s : Nat} {e : TypeId} {a : Option Addr} {k : Nat} {xs : List Value} (h : w.ownsRow base e s (.slice a (n + 1) k) (n + 1) xs) : ∃ g, a = some ⟨g, 0, none⟩ := by
 rcases h.2 with ⟨_, h2⟩ | ⟨g, cap, cur, e1, _⟩
 · omega
 ·
  simp only [Value.slice.injEq] at e1; exact ⟨g, e1.1⟩
theorem find_at {P : CV → Bool} {l : List CV} {k : Nat} {c : CV} (h : ∀ (i : Nat) (x : CV), i < k → l[i]? = some x → P x = false) (hc : l[k]? = some c) (hP : P c = true) : l.find? P = some c := by
 have e1 : l = l.take k ++ c :: l.drop (k + 1) := by
  obtain ⟨hk, e⟩ := List.getElem?_eq_some_iff.1 hc; rw [← e, List.getElem_cons_drop, List.take_append_drop]
 rw [e1, List.find?_append]
 have : (l.take k).find? P = none := by
  rw [List.find?_eq_none]; intro x hx; obtain ⟨i, hi⟩ := List.getElem?_of_mem hx; rw [List.getElem?_take] at hi
  split at hi
  · rw [h i x (by assumption) hi]; simp
  · cases hi
 rw [this, Option.none_or, List.find?_cons, hP]
theorem find_not {P : CV → Bool} {l : List CV} (h : ∀ (i : Nat) (x : CV), i < l.length → l[i]? = some x → P x = false) : l.find? P = none := by
 rw [List.find?_eq_none]; intro x hx; obtain ⟨i, hi⟩ := List.getElem?_of_mem hx; rw [h i x (List.getElem?_eq_some_iff.1 hi).1 hi]; simp
theorem rproof (x : BsX) (ar : Option Addr) (cr : Nat) (err : Int) (room ps : List Int) (pubs : List PublicV) (aq : Option Addr) (nq : Nat) (o why : Int) (l : List CV) (al : Option Addr) (nl : Nat) (w : World) (hR : LArg RInt 1 (.slice ar room.length cr) room w) (h3 : room.length = 3) (he : 0 ≤ err ∧ err ≤ 1099511627776) (hr : ∀ r ∈ room, 0 ≤ r ∧ r ≤ 1125899906842624) (hQ : LArg RPublic 4 (.slice aq pubs.length nq) pubs w) (hpl : pubs.length ≤ 1000) (hI : ∀ p ∈ pubs, PbI p) (hl : LArg RC 8 (.slice al l.length nl) l w) (hll : l.length ≤ 1000) (ho : 0 ≤ o ∧ o < 3) (hk : ∀ c ∈ l, CNum c ∧ (0 ≤ c.office ∧ c.office < 3) ∧ 0 ≤ c.hour ∧ c.hour ≤ 16777216) : Calls Tryz.prog 37 #[.agg #[x.nm, .slice x.a1 x.n1 x.c1, x.k, .slice x.a3 x.n3 x.c3, .slice x.a4 x.n4 x.c4, .slice x.a5 x.n5 x.c5, .slice x.a6 x.n6 x.c6, .slice x.a7 x.n7 x.c7, .slice x.a8 x.n8 x.c8, .slice ar 3 cr, err], .slice aq pubs.length nq, .slice al l.length nl, o, .int .i64 why] w (RetC (proofR (judgeV err room ps pubs) o why l) w) := by
 have HRm := hD hR; have HL3 := hD h3; have HE := hD he; have HRr := hD hr; have HQ := hD hQ; have HPL := hD hpl; have HI := hD hI; have HLl := hD hl; have HO := hD ho; have HK := hD hk; have HR : Hid (RowsS w [(w.heap.size, .cells #[x.nm, .slice x.a1 x.n1 x.c1, x.k, .slice x.a3 x.n3 x.c3, .slice x.a4 x.n4 x.c4, .slice x.a5 x.n5 x.c5, .slice x.a6 x.n6 x.c6, .slice x.a7 x.n7 x.c7, .slice x.a8 x.n8 x.c8, .slice ar 3 cr, err] 31)] (w.alloc (.cells #[x.nm, .slice x.a1 x.n1 x.c1, x.k, .slice x.a3 x.n3 x.c3, .slice x.a4 x.n4 x.c4, .slice x.a5 x.n5 x.c5, .slice x.a6 x.n6 x.c6, .slice x.a7 x.n7 x.c7, .slice x.a8 x.n8 x.c8, .slice ar 3 cr, err] 31))) := hD ((RowsS.nil w).alloc (.cells #[x.nm, .slice x.a1 x.n1 x.c1, x.k, .slice x.a3 x.n3 x.c3, .slice x.a4 x.n4 x.c4, .slice x.a5 x.n5 x.c5, .slice x.a6 x.n6 x.c6, .slice x.a7 x.n7 x.c7, .slice x.a8 x.n8 x.c8, .slice ar 3 cr, err] 31)); clear hR h3 he hr hQ hpl hI hl ho hk; go_enter Tryz.func37, Tryz.ntmps37; go_upto_region 1 with fail; generalize (w.alloc (.cells #[x.nm, .slice x.a1 x.n1 x.c1, x.k, .slice x.a3 x.n3 x.c3, .slice x.a4 x.n4 x.c4, .slice x.a5 x.n5 x.c5, .slice x.a6 x.n6 x.c6, .slice x.a7 x.n7 x.c7, .slice x.a8 x.n8 x.c8, .slice ar 3 cr, err] 31)) = w0 at *; by_cases h1 : why = 2
 ·
  have q1a : (why == 2) = true := by rw [beq_iff_eq]; exact h1
  have q1b : decide (why = 2) = true := decide_eq_true h1; have q1c : (why != 2) = false := by rw [bne, q1a]; rfl
  have H1 := hD h1; clear h1; have HP : Hid (∀ (w0 : World), Below w.heap.size w w0 → ∀ c ∈ l, Calls Tryz.prog 40 #[.agg #[x.nm, .slice x.a1 x.n1 x.c1, x.k, .slice x.a3 x.n3 x.c3, .slice x.a4 x.n4 x.c4, .slice x.a5 x.n5 x.c5, .slice x.a6 x.n6 x.c6, .slice x.a7 x.n7 x.c7, .slice x.a8 x.n8 x.c8, .slice ar 3 cr, err], o, .agg #[c.office, c.hour, c.inn, c.out, c.store, c.prev, c.e, c.s]] w0 (RetB (decide (c.office = o) && rangeB (judgeV err room ps pubs) c) w0)) := hD (fun w0 hb c hc => rranged x ar cr err room ps pubs o c w0 (HRm.out.below stays_int hb) HL3.out HE.out HRr.out (HK.out c hc).2.1); obtain ⟨PP, hPP⟩ : ∃ PP : CV → Bool, PP = (fun c => decide (c.office = o) && rangeB (judgeV err room ps pubs) c) := ⟨_, rfl⟩; have HQQ : Hid (proofR (judgeV err room ps pubs) o why l = (match l.find? PP with | some c => [c] | none => [])) := hD (by unfold proofR; rw [if_pos H1.out, hPP]); have HP : Hid (∀ (w0 : World), Below w.heap.size w w0 → ∀ c ∈ l, Calls Tryz.prog 40 #[.agg #[x.nm, .slice x.a1 x.n1 x.c1, x.k, .slice x.a3 x.n3 x.c3, .slice x.a4 x.n4 x.c4, .slice x.a5 x.n5 x.c5, .slice x.a6 x.n6 x.c6, .slice x.a7 x.n7 x.c7, .slice x.a8 x.n8 x.c8, .slice ar 3 cr, err], o, .agg #[c.office, c.hour, c.inn, c.out, c.store, c.prev, c.e, c.s]] w0 (RetB (PP c) w0)) := hD (fun w0 hb c hc => by rw [hPP]; exact HP.out w0 hb c hc); clear hPP; go_wp2_with fail; go_loopw [11] (fun iv wx => ∃ k : Nat, k ≤ l.length ∧ iv = .int .i64 k ∧ (∀ (i : Nat) (x : CV), i < k → l[i]? = some x → PP x = false) ∧ RowsS w [(w.heap.size, .cells #[x.nm, .slice x.a1 x.n1 x.c1, x.k, .slice x.a3 x.n3 x.c3, .slice x.a4 x.n4 x.c4, .slice x.a5 x.n5 x.c5, .slice x.a6 x.n6 x.c6, .slice x.a7 x.n7 x.c7, .slice x.a8 x.n8 x.c8, .slice ar 3 cr, err] 31)] wx) (fun iv _ => l.length - (Go.RowKit.intOf iv).toNat)
  case atStart => exact ⟨0, Nat.zero_le _, rfl, fun i x h => absurd h (Nat.not_lt_zero _), HR.out⟩
  case round =>
   obtain ⟨k, hk, rfl, hno, hr⟩ := hrel; have HNO := hD hno; have HR1 := hD hr; clear hno hr HR; by_cases hlt : k < l.length
   ·
    obtain ⟨c, hc⟩ : ∃ c, l[k]? = some c := ⟨_, List.getElem?_eq_getElem hlt⟩; obtain ⟨b, o1, cs, rfl, hbl, -, hrg, hcs, hcg⟩ := HLl.out.at hc; unfold cellsC at hcs; subst hcs; have HRG1 := hD hrg; have HCG := hD hcg; have HC := hD hc; have HPc : Hid (∀ w0, Below w.heap.size w w0 → Calls Tryz.prog 40 #[.agg #[x.nm, .slice x.a1 x.n1 x.c1, x.k, .slice x.a3 x.n3 x.c3, .slice x.a4 x.n4 x.c4, .slice x.a5 x.n5 x.c5, .slice x.a6 x.n6 x.c6, .slice x.a7 x.n7 x.c7, .slice x.a8 x.n8 x.c8, .slice ar 3 cr, err], o, .agg #[c.office, c.hour, c.inn, c.out, c.store, c.prev, c.e, c.s]] w0 (RetB (PP c) w0)) := hD (fun w0 hb => HP.out _ hb c (List.mem_of_getElem? hc)); obtain ⟨q, hq⟩ : ∃ q, q = PP c := ⟨_, rfl⟩; rw [← hq] at HPc; clear hc hrg hcg; go_upto_region 5 with fail; refine wrd (S := RowsS w _) (HR1.out.drew) (fun yH => ?_); refine tn 0 ?_ (hx := ldw 0 undBn infoBn); refine tn 1 ?_; refine tn 2 ?_; refine tn 3 ?_; refine tn 4 ?_; refine tn 5 ?_ (hx := ldr HRG1 hbl undCm infoCm); refine rd1 6 (fun K hK => ?_); go_simp; refine (HPc.out _ yH.below).mono ?_; rintro e w' ⟨rfl, hb⟩; refine hK.out _ _ (yH.step hb) (fun yH => ?_); clear hK K; refine rdn ?_; have HR5 := hD yH; have HRG6 := hD (rangeAt_below HRG1.out HR5.out.below hbl); clear yH HR1 HPc; rw [hq]; clear hq
    cases hpp : PP c with
    | true =>
     have HF := hD (find_at HNO.out HC.out hpp); clear hpp; go_wp2_with (first | (refine lRG HRG6.out undCm infoCm ?_) | (refine Go.Great.wpList_buildRows rfl 33 63 _ 8 [.agg #[c.office, c.hour, c.inn, c.out, c.store, c.prev, c.e, c.s]] rfl (fun _ => 32) _ rfl _ rfl (by kernel_rfl) (by kernel_rfl) (by kernel_rfl) (by decide) (by decide) (by decide) rfl (by simp [Value.cells]) (fun i hi => by rcases i with _ | i <;> first | rfl | (go_simp; done) | exact absurd hi (by simp)) ?_)); go_ret; exact retC_one (by rw [HQQ.out, HF.out]) HR5.out.below.size (heap_alloc_new _ _) HCG.out (HR5.out.below.alloc HR5.out.below.size _)
    | false =>
     have HN2 : Hid (∀ (i : Nat) (y : CV), i < k + 1 → l[i]? = some y → PP y = false) := hD (fun i y hi hy => by
      by_cases e : i = k
      · subst e; rw [HC.out] at hy; cases hy; exact hpp
      · exact HNO.out i y (by omega) hy)
     clear hpp; go_wp2_with fail; go_roundw
     case rel => exact ⟨k + 1, by omega, by go_num, HN2.out, HR5.out⟩
     case measure => simp [Go.RowKit.intOf]; omega
   ·
    have HE1 : Hid (l.find? PP = none) := hD (find_not (fun i x hi hx => HNO.out i x (by omega) hx)); go_wp2_with fail; go_ret; exact retC_nil (by rw [HQQ.out, HE1.out]) HR1.out.below
 ·
  have q1a : (why == 2) = false := by rw [beq_eq_false_iff_ne]; exact h1
  have q1b : decide (why = 2) = false := decide_eq_false h1; have q1c : (why != 2) = true := by rw [bne, q1a]; rfl
  have H1 := hD h1; clear h1; by_cases h2 : why = 4
  ·
   have q2a : (why == 4) = true := by rw [beq_iff_eq]; exact h2
   have q2b : decide (why = 4) = true := decide_eq_true h2; have q2c : (why != 4) = false := by rw [bne, q2a]; rfl
   have H2 := hD h2; clear h2; have HLT : Hid (w.heap.size + 1 ≤ w0.heap.size) := hD (blk_lt (HR.out.row 0 rfl)); obtain ⟨F0, hF0⟩ : ∃ F, F = first2 (bordB (judgeV err room ps pubs) 0) l l := ⟨_, rfl⟩; obtain ⟨F1, hF1⟩ : ∃ F, F = first2 (bordB (judgeV err room ps pubs) 1) l l := ⟨_, rfl⟩; have HQQ : Hid (proofR (judgeV err room ps pubs) o why l = (if o = 1 then (match F0, F1 with | some (c, d), some (e, f) => [c, d, e, f] | _, _ => []) else [])) := hD (by unfold proofR; rw [if_neg H1.out, if_pos H2.out, hF0, hF1]); have HN0 : Hid (∀ w0, Below w.heap.size w w0 → Calls Tryz.prog 73 #[.agg #[x.nm, .slice x.a1 x.n1 x.c1, x.k, .slice x.a3 x.n3 x.c3, .slice x.a4 x.n4 x.c4, .slice x.a5 x.n5 x.c5, .slice x.a6 x.n6 x.c6, .slice x.a7 x.n7 x.c7, .slice x.a8 x.n8 x.c8, .slice ar 3 cr, err], .slice al l.length nl, ()] w0 (RetC (pL F0) w0)) := hD (fun w0 hb => by rw [hF0]; exact rneigh x ar cr err room ps pubs 0 l al nl w0 (HLl.out.below stays_RC hb) hll HE.out (by omega) HK.out); have HN1 : Hid (∀ w0, Below w.heap.size w w0 → Calls Tryz.prog 73 #[.agg #[x.nm, .slice x.a1 x.n1 x.c1, x.k, .slice x.a3 x.n3 x.c3, .slice x.a4 x.n4 x.c4, .slice x.a5 x.n5 x.c5, .slice x.a6 x.n6 x.c6, .slice x.a7 x.n7 x.c7, .slice x.a8 x.n8 x.c8, .slice ar 3 cr, err], .slice al l.length nl, .int .i64 1] w0 (RetC (pL F1) w0)) := hD (fun w0 hb => by rw [hF1]; exact rneigh x ar cr err room ps pubs 1 l al nl w0 (HLl.out.below stays_RC hb) hll HE.out (by omega) HK.out); clear hF0 hF1; go_wp2_with (refine lRW (HR.out.row 0 rfl) undBn infoBn ?_)
   refine (HN0.out _ HR.out.below).mono ?_; rintro e w1 ⟨⟨v1, rfl, hov1, hgv1⟩, hb1⟩; have HR1 := hD (HR.out.step hb1); obtain ⟨a1, k1, rfl, hla1⟩ := larg_ownC hov1 hgv1; have HOV1 := hD (own_base hov1 HLT.out); have HGV1 := hD hgv1; clear hov1 hgv1 hb1 hla1; go_wp2_with (refine lRW (HR1.out.row 0 rfl) undBn infoBn ?_); refine (HN1.out _ HR1.out.below).mono ?_; rintro e w2 ⟨⟨v2, rfl, hov2, hgv2⟩, hb2⟩; have HR2 := hD (HR1.out.step hb2); have HOV3 : Hid (w2.ownsRow (w.heap.size + 1) 63 8 (.slice a1 (pL F0).length k1) (pL F0).length (flC (pL F0))) := hD (HOV1.out.kept (grown_of_below hb2 none) (by cases (Value.slice a1 (pL F0).length k1).ownBlock <;> simp)); obtain ⟨a2, k2, rfl, hla2⟩ := larg_ownC hov2 hgv2; have HLA2 := hD hla2; have HOV2 := hD hov2; have HGV2 := hD hgv2; clear hov2 hgv2 hb2 hla2 HOV1 HN0 HN1 HR1; by_cases h3 : o = 1
   ·
    have q3a : (o == 1) = true := by rw [beq_iff_eq]; exact h3
    have q3b : decide (o = 1) = true := decide_eq_true h3; have q3c : (o != 1) = false := by rw [bne, q3a]; rfl
    have H3 := hD h3; clear h3
    cases F0 with
    | none =>
     cases F1 with
     | none =>
      simp only [pL, List.length_nil]; have HT : Hid (proofR (judgeV err room ps pubs) o why l = []) := hD (by rw [HQQ.out]; rw [if_pos H3.out]); go_wp2_with fail; go_ret; exact retC_nil HT.out HR2.out.below
     | some z =>
      simp only [pL, List.length_nil, List.length_cons, Nat.zero_add, Nat.reduceAdd]; have HT : Hid (proofR (judgeV err room ps pubs) o why l = []) := hD (by rw [HQQ.out]; rw [if_pos H3.out]); go_wp2_with fail; go_ret; exact retC_nil HT.out HR2.out.below
    | some y =>
     obtain ⟨c, d⟩ := y
     cases F1 with
     | none =>
      simp only [pL, List.length_nil, List.length_cons, Nat.zero_add, Nat.reduceAdd]; have HT : Hid (proofR (judgeV err room ps pubs) o why l = []) := hD (by rw [HQQ.out]; rw [if_pos H3.out]); go_wp2_with fail; go_ret; exact retC_nil HT.out HR2.out.below
     | some z =>
      obtain ⟨e, f⟩ := z; simp only [pL, List.length_nil, List.length_cons, Nat.zero_add, Nat.reduceAdd]; have HT : Hid (proofR (judgeV err room ps pubs) o why l = pL (some (c, d)) ++ pL (some (e, f))) := hD (by rw [HQQ.out, if_pos H3.out]; rfl); obtain ⟨ic, zc, hic, hsz, hzc, hcz, hbc⟩ := infoC72; have HOVn : Hid (w2.ownsRow (w.heap.size + 1) 63 8 (.slice a1 2 k1) 2 (flC (pL (some (c, d))))) := hD HOV3.out; have HOVm : Hid (w2.ownsRow w1.heap.size 63 8 (.slice a2 2 k2) 2 (flC (pL (some (e, f))))) := hD HOV2.out; obtain ⟨g1, hg1⟩ := own_some (n := 1) HOVn.out; obtain ⟨g2, hg2⟩ := own_some (n := 1) HOVm.out; subst hg1; subst hg2; have hbb : w.heap.size + 1 ≤ w2.heap.size := blk_lt (HR2.out.row 0 rfl); have hmx : 2 + 2 ≤ maxLen := by unfold maxLen; omega
      have hby : (2 + 2) * ic.bytes ≤ 140737488355328 := by rw [hbc]; omega
      go_upto_region 13 with fail; go_wp2_with (at_builtin; refine Hid.out ?_); refine hD ?_; refine wpList_append_any _ rfl _ _ 33 rfl (w.heap.size + 1) 63 ic zc 8 ic.bytes undSC hic hzc hsz rfl hcz (by decide) _ 2 (flC (pL (some (c, d)))) rfl HOVn.out _ 2 _ (flC (pL (some (e, f)))) rfl (flC_len _) (larg_news HLA2.out) (flC_one _) hmx hby hbb ?_; intro v5 w5 hown5 hgr5 _
      have HR5 := hD (HR2.out.grownO hgr5 (fun g e => by have := (HOV3.out.lt g e).1; omega) (fun p hp => by
       have h1 : p.1 = w.heap.size := by simp at hp; rw [hp]
       rw [h1]; intro e; have := (HOV3.out.lt _ e).1; omega))
      have HO5 : Hid (w5.ownsRow w.heap.size 63 8 v5 (proofR (judgeV err room ps pubs) o why l).length (flC (proofR (judgeV err room ps pubs) o why l))) := hD (by
       rw [HT.out, List.length_append]; unfold flC; rw [List.flatMap_append]
       exact own_base hown5 (Nat.le_succ _))
      have HG5 : Hid (∀ x ∈ proofR (judgeV err room ps pubs) o why l, CGood x) := hD (fun x hx => by
       rw [HT.out] at hx; rcases List.mem_append.1 hx with h | h
       · exact HGV1.out x h
       · exact HGV2.out x h)
      clear hown5 hgr5; go_wp2_with fail; go_ret; exact ⟨⟨_, rfl, HO5.out, HG5.out⟩, HR5.out.below⟩
   ·
    have q3a : (o == 1) = false := by rw [beq_eq_false_iff_ne]; exact h3
    have q3b : decide (o = 1) = false := decide_eq_false h3; have q3c : (o != 1) = true := by rw [bne, q3a]; rfl
    have H3 := hD h3; clear h3; have HT : Hid (proofR (judgeV err room ps pubs) o why l = []) := hD (by rw [HQQ.out]; rw [if_neg H3.out]); go_wp2_with fail; go_ret; exact retC_nil HT.out HR2.out.below
  ·
   have q2a : (why == 4) = false := by rw [beq_eq_false_iff_ne]; exact h2
   have q2b : decide (why = 4) = false := decide_eq_false h2; have q2c : (why != 4) = true := by rw [bne, q2a]; rfl
   have H2 := hD h2; clear h2; have HQQ : Hid (proofR (judgeV err room ps pubs) o why l = pL (first2 (pairB (judgeV err room ps pubs) o why) l l)) := hD (by unfold proofR; rw [if_neg H1.out, if_neg H2.out]); go_wp2_with (refine lRW (HR.out.row 0 rfl) undBn infoBn ?_); refine (rtwo x ar cr err room ps pubs aq nq o why l al nl _ (HLl.out.below stays_RC HR.out.below) hll (HQ.out.below stays_Public HR.out.below) HPL.out HI.out HE.out HO.out HK.out).mono ?_; rintro e w1 ⟨⟨v, rfl, hov, hgv⟩, hb⟩; have HB1 := hD (HR.out.step hb).below; have HOV : Hid (w1.ownsRow w.heap.size 63 8 v (proofR (judgeV err room ps pubs) o why l).length (flC (proofR (judgeV err room ps pubs) o why l))) := hD (by rw [HQQ.out]; exact own_base hov HR.out.below.size); have HGV : Hid (∀ x ∈ proofR (judgeV err room ps pubs) o why l, CGood x) := hD (by rw [HQQ.out]; exact hgv); clear hov hgv hb; go_wp2_with fail; go_ret; exact ⟨⟨_, rfl, HOV.out, HGV.out⟩, HB1.out⟩
end Go.Proofs.YtjbjpkhibcnenaaGreatDoor
/- The reference's search says what findL says (plain). -/
namespace Go.Proofs.YtjbjpkhibcnenaaGreatDoor
theorem find_filterC (b P : CV → Bool) : ∀ m : List CV, (m.filter b).find? P = m.find? (fun d => b d && P d)
 | [] => rfl
 | d :: m => by
  rw [List.filter_cons, List.find?_cons (p := fun d => b d && P d)]
  cases hb : b d with
  | false => simp only [Bool.false_and]; exact find_filterC b P m
  | true =>
   simp only [Bool.true_and, if_true]; rw [List.find?_cons]
   cases hp : P d with
   | true => rfl
   | false => exact find_filterC b P m
theorem first2_filter (a b : CV → Bool) (P : CV → CV → Bool) (m : List CV) : ∀ l : List CV, first2 (fun c d => a c && b d && P c d) l m = first2 P (l.filter a) (m.filter b)
 | [] => rfl
 | c :: l => by
  have ih := first2_filter a b P m l; unfold first2 at ih ⊢; rw [List.findSome?_cons, List.filter_cons]
  cases ha : a c with
  | false =>
   have e : (m.find? fun d => a c && b d && P c d) = none := by rw [List.find?_eq_none]; intro x _; rw [ha]; simp
   rw [e]; exact ih
  | true =>
   have e : (m.find? fun d => a c && b d && P c d) = (m.filter b).find? (P c) := by
    rw [find_filterC]
    congr 1
    funext d
    rw [ha, Bool.true_and]
   rw [e, if_pos rfl, List.findSome?_cons]
   cases (m.filter b).find? (P c) with
   | some d => rfl
   | none => exact ih
theorem clO_is (J : JV) (l : List CV) (o : Int) : clO J l o = (l.filter J.K).filter (fun c => decide (c.office = o)) := by
 unfold clO; rw [List.filter_filter]
 congr 1
 funext c
 rw [Bool.and_comm]
theorem pair0 (J : JV) (l : List CV) (o : Int) : first2 (pairB J o 0) (l.filter J.K) (l.filter J.K) = first2 forkB (clO J l o) (clO J l o) := by
 rw [clO_is]
 have e : pairB J o 0 = fun c d => decide (c.office = o) && decide (d.office = o) && forkB c d := by
  funext c d
  unfold pairB; rw [if_pos rfl]
 rw [e]; exact first2_filter _ _ _ _ _
theorem pair1 (J : JV) (l : List CV) (o : Int) : first2 (pairB J o 1) (l.filter J.K) (l.filter J.K) = first2 (balB J o) (clO J l o) (clO J l o) := by
 rw [clO_is]
 have e : pairB J o 1 = fun c d => decide (c.office = o) && decide (d.office = o) && (balB J o) c d := by
  funext c d
  unfold pairB; rw [if_neg (by omega), if_pos rfl]
 rw [e]; exact first2_filter _ _ _ _ _
theorem pair3 (J : JV) (l : List CV) : first2 (pairB J 2 3) (l.filter J.K) (l.filter J.K) = first2 (mouB J) (clO J l 2) (clO J l 2) := by
 rw [clO_is]
 have e : pairB J 2 3 = fun c d => decide (c.office = 2) && decide (d.office = 2) && (mouB J) c d := by
  funext c d
  unfold pairB; rw [if_neg (by omega), if_neg (by omega), if_pos rfl, decide_eq_true rfl, Bool.true_and]
 rw [e]; exact first2_filter _ _ _ _ _
theorem pair3n (J : JV) (l : List CV) {o : Int} (h : o ≠ 2) : first2 (pairB J o 3) (l.filter J.K) (l.filter J.K) = none := first2_none (fun i x _ _ y _ => by
 unfold pairB
 rw [if_neg (by omega), if_neg (by omega), if_pos rfl, decide_eq_false h, Bool.false_and, Bool.and_false])
theorem rng2 (J : JV) (l : List CV) (o : Int) : (l.filter J.K).find? (fun c => decide (c.office = o) && rangeB J c) = (clO J l o).find? (rangeB J) := by
 rw [clO_is, ← find_filterC]
theorem bord4 (J : JV) (l : List CV) (u : Int) : first2 (bordB J u) (l.filter J.K) (l.filter J.K) = first2 (disB J) (clO J l u) (clO J l (u + 1)) := by
 rw [clO_is, clO_is]; exact first2_filter _ _ _ _ _
theorem proofR_is (J : JV) (l : List CV) (vows : List PV) {o : Int} {why : Nat} (hw : why < 5) : (if proofR J o why (l.filter J.K) = [] then none else some (⟨o, why, proofR J o why (l.filter J.K), zeroP⟩ : BlV)) = blameL J l vows o why := by
 have hpl : ∀ (r : Option (CV × CV)) (k : Int), (if pL r = [] then none else some (⟨o, k, pL r, zeroP⟩ : BlV)) = two o k r := fun r k => by
  cases r with
  | none => rfl
  | some y => obtain ⟨c, d⟩ := y; rfl
 rcases why with _ | _ | _ | _ | _ | why
 · rw [bl0, ← pair0, ← hpl]; rfl
 · rw [bl1, ← pair1, ← hpl]; rfl
 ·
  rw [bl2, ← rng2]; show (if (match (l.filter J.K).find? (fun c => decide (c.office = o) && rangeB J c) with | some c => [c] | none => []) = [] then none else some (⟨o, 2, (match (l.filter J.K).find? (fun c => decide (c.office = o) && rangeB J c) with | some c => [c] | none => []), zeroP⟩ : BlV)) = _
  cases (l.filter J.K).find? (fun c => decide (c.office = o) && rangeB J c) with
  | none => rfl
  | some c => rfl
 ·
  rw [bl3]; by_cases h : o = 2
  ·
   subst h; rw [if_pos rfl, ← pair3, ← hpl]; rfl
  ·
   rw [if_neg h]; show (if pL (first2 (pairB J o 3) (l.filter J.K) (l.filter J.K)) = [] then none else some (⟨o, 3, pL (first2 (pairB J o 3) (l.filter J.K) (l.filter J.K)), zeroP⟩ : BlV)) = none; rw [pair3n J l h]; rfl
 ·
  rw [bl4]; by_cases h : o = 1
  ·
   subst h; rw [if_pos rfl]; unfold bothL; have b0 : first2 (bordB J 0) (l.filter J.K) (l.filter J.K) = first2 (disB J) (clO J l 0) (clO J l 1) := bord4 J l 0; have b1 : first2 (bordB J 1) (l.filter J.K) (l.filter J.K) = first2 (disB J) (clO J l 1) (clO J l 2) := bord4 J l 1; rw [← b0, ← b1]; show (if (match first2 (bordB J 0) (l.filter J.K) (l.filter J.K), first2 (bordB J 1) (l.filter J.K) (l.filter J.K) with | some (c, d), some (e, f) => [c, d, e, f] | _, _ => []) = [] then none else some (⟨1, 4, (match first2 (bordB J 0) (l.filter J.K) (l.filter J.K), first2 (bordB J 1) (l.filter J.K) (l.filter J.K) with | some (c, d), some (e, f) => [c, d, e, f] | _, _ => []), zeroP⟩ : BlV)) = _
   cases first2 (bordB J 0) (l.filter J.K) (l.filter J.K) with
   | none => rfl
   | some y =>
    obtain ⟨c, d⟩ := y
    cases first2 (bordB J 1) (l.filter J.K) (l.filter J.K) with
    | none => rfl
    | some z => obtain ⟨e, f⟩ := z; rfl
  ·
   rw [if_neg h]
   have e : proofR J o ((4 : Nat) : Int) (l.filter J.K) = [] := by
    unfold proofR; rw [if_neg (by omega), if_pos (by omega), if_neg h]
   show (if proofR J o ((4 : Nat) : Int) (l.filter J.K) = [] then none else some (⟨o, ((4 : Nat) : Int), proofR J o ((4 : Nat) : Int) (l.filter J.K), zeroP⟩ : BlV)) = none; rw [if_pos e]
 · omega
def brokB (J : JV) (p : PV) (c d : CV) : Bool := decide (c.office = p.office) && decide (d.office = p.office) && brkB J p c d
def vowedR (J : JV) (l : List CV) (vs : List PV) (o : Int) : Option BlV := vs.findSome? (fun p => if p.office = o then (first2 (brokB J p) l l).map fun x => ⟨o, 5, [x.1, x.2], p⟩ else none)
theorem vowedR_is (J : JV) (l : List CV) (o : Int) : ∀ vows : List PV, vowedR J (l.filter J.K) (vows.filter J.V) o = brokeL J (clO J l o) vows o
 | [] => rfl
 | p :: vows => by
  have ih := vowedR_is J l o vows; unfold vowedR brokeL at ih ⊢; rw [List.filter_cons, List.findSome?_cons]
  cases hv : J.V p with
  | false =>
   rw [if_neg (by decide), if_neg (fun h => by have := h.1; simp at this)]; exact ih
  | true =>
   rw [if_pos rfl, List.findSome?_cons]; by_cases ho : p.office = o
   ·
    rw [if_pos ho, if_pos ⟨rfl, ho⟩]
    have e : first2 (brokB J p) (l.filter J.K) (l.filter J.K) = first2 (brkB J p) (clO J l o) (clO J l o) := by
     rw [clO_is, ← ho]; exact first2_filter _ _ _ _ _
    rw [e]
    cases first2 (brkB J p) (clO J l o) (clO J l o) with
    | some y => rfl
    | none => exact ih
   ·
    rw [if_neg ho, if_neg (fun h => ho h.2)]; exact ih
end Go.Proofs.YtjbjpkhibcnenaaGreatDoor
