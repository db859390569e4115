/- Texts merged: TQA TQB TQC -/
import Derived.Test.YtjbjpkhibcnenaaGreatDoorAFind
import Derived.Deep.DeepCutAuto
import Derived.Test.YtjbjpkhibcnenaaGreatDoorALawB
/- The reference of package audit: Add, Right, fits, outside, differ. -/
namespace Go.Proofs.YtjbjpkhibcnenaaGreatDoor
set_option maxRecDepth 100000
set_option maxHeartbeats 4000000
open Go.RowKit
theorem radd46 (a b : Int) (w : World) (ha : I64 a) (hb : I64 b) : Calls Tryz.prog 100 #[.int .i64 a, .int .i64 b] w fun e w' => e = .returned (.int .i64 (addS a b)) ∧ w = w' := by
 unfold I64 at ha hb; by_cases h1 : 0 < b
 ·
  by_cases h2 : 9223372036854775807 - b < a
  ·
   have HE : Hid (addS a b = 9223372036854775807) := hD (by unfold addS; rw [if_pos (by omega)]); go_enter Tryz.func100, Tryz.ntmps100; go_wp2; go_ret; exact ⟨ret_int HE.out.symm, rfl⟩
  ·
   have HE : Hid (addS a b = a + b) := hD (addS_in (by omega) (by omega)); have t1 : ¬ b < 0 := by omega
   go_enter Tryz.func100, Tryz.ntmps100; go_wp2; go_ret; exact ⟨ret_int HE.out.symm, rfl⟩
 ·
  by_cases h2 : b < 0
  ·
   by_cases h3 : a < -9223372036854775808 - b
   ·
    have HE : Hid (addS a b = -9223372036854775808) := hD (by unfold addS; rw [if_neg (by omega), if_pos (by omega)]); go_enter Tryz.func100, Tryz.ntmps100; go_wp2; go_ret; exact ⟨ret_int HE.out.symm, rfl⟩
   ·
    have HE : Hid (addS a b = a + b) := hD (addS_in (by omega) (by omega)); go_enter Tryz.func100, Tryz.ntmps100; go_wp2; go_ret; exact ⟨ret_int HE.out.symm, rfl⟩
  ·
   have HE : Hid (addS a b = a + b) := hD (addS_in (by omega) (by omega)); go_enter Tryz.func100, Tryz.ntmps100; go_wp2; go_ret; exact ⟨ret_int HE.out.symm, rfl⟩
theorem rrightSp (s : SpanV) (w : World) : Calls Tryz.prog 129 #[.agg #[s.lo, s.hi]] w (RetB (rightSp s) w) := by
 go_enter Tryz.func129, Tryz.ntmps129; go_wp2_with fail; go_ret; exact retB_mk rfl ((Below.refl _ _).alloc (Nat.le_refl _) _)
theorem raddSp (a b : SpanV) (w : World) (ha : SpI a) (hb : SpI b) : Calls Tryz.prog 82 #[.agg #[a.lo, a.hi], .agg #[b.lo, b.hi]] w (RetS (addSp a b) w) := by
 obtain ⟨w0, hw0, hR0⟩ := RowsS.threeE w (.cells #[a.lo, a.hi] 53) (.cells #[b.lo, b.hi] 53) (.cells #[(), ()] 53); have HR := hD hR0; have HW0 := hD hw0; clear hR0 hw0; go_enter Tryz.func82, Tryz.ntmps82; go_upto_region 1 with fail; rw [HW0.out]; have c0 := HR.out.cell 0 0 rfl rfl; have c1 := HR.out.cell 1 0 rfl rfl; go_wp2_with fail; refine (radd46 a.lo b.lo _ ha.1 hb.1).mono ?_; rintro e w1 ⟨rfl, rfl⟩; clear c0 c1; have c0 := HR.out.cell 0 1 rfl rfl; have c1 := HR.out.cell 1 1 rfl rfl; go_wp2_with fail; refine (radd46 a.hi b.hi _ ha.2 hb.2).mono ?_; rintro e w2 ⟨rfl, rfl⟩; clear c0 c1; obtain ⟨x, hx⟩ : ∃ x, x = addS a.lo b.lo := ⟨_, rfl⟩; obtain ⟨y, hy⟩ : ∃ y, y = addS a.hi b.hi := ⟨_, rfl⟩; rw [← hx, ← hy]; have HE : Hid (addSp a b = ⟨x, y⟩) := hD (by rw [hx, hy]; rfl); clear hx hy; go_wp2_with (refine sRW #[.int .i64 x, .int .i64 y] (HR.out.row 2 rfl) infoSp ?_); have HRZ := hD (HR.out.set (i := 2) (cs' := #[.int .i64 x, .int .i64 y]) rfl); exact bodyPost_ret (v := .agg #[.int .i64 x, .int .i64 y]) (results_cell_row rfl _ _ _ 53 _ (0, 0) _ rfl (HRZ.out.row 2 rfl) undSp rfl infoSp) rfl (retS_mk HE.out HRZ.out.below)
theorem fits_any (n : Int) (w : World) : Calls Tryz.prog 70 #[.int .i64 n] w (RetB (withinB n) w) := by
 by_cases h1 : -1152921504606846976 ≤ n
 ·
  have q1 : decide (-1152921504606846976 ≤ n) = true := decide_eq_true h1
  have HE : Hid (withinB n = decide (n ≤ 1152921504606846976)) := hD (by
   unfold withinB; by_cases h2 : n ≤ 1152921504606846976
   · rw [decide_eq_true h2, decide_eq_true ⟨h1, h2⟩]
   · rw [decide_eq_false h2, decide_eq_false (fun h => h2 h.2)])
  go_enter Tryz.func70, Tryz.ntmps70; go_wp2_with fail; go_ret; exact retB_mk HE.out (Below.refl _ _)
 ·
  have q1 : decide (-1152921504606846976 ≤ n) = false := decide_eq_false h1; have HE : Hid (withinB n = false) := hD (decide_eq_false (fun h => h1 h.1)); go_enter Tryz.func70, Tryz.ntmps70; go_wp2_with fail; go_ret; exact retB_mk HE.out (Below.refl _ _)
def difB (a b k : Int) : Bool := decide (k < a - b) || decide (k < b - a)
theorem differ_any (a b k : Int) (w : World) (ha : -1152921504606846976 ≤ a ∧ a ≤ 1152921504606846976) (hb : -1152921504606846976 ≤ b ∧ b ≤ 1152921504606846976) : Calls Tryz.prog 76 #[.int .i64 a, .int .i64 b, .int .i64 k] w (RetB (difB a b k) w) := by
 have W1 : IntKind.i64.wrap (a - b) = a - b := IntWalk.i64_in _ (by omega); have W2 : IntKind.i64.wrap (b - a) = b - a := IntWalk.i64_in _ (by omega)
 cases h1 : decide (k < a - b) with
 | true =>
  have HE : Hid (difB a b k = true) := hD (by unfold difB; rw [h1]; rfl); go_enter Tryz.func76, Tryz.ntmps76; go_wp2_with fail; go_ret; exact retB_mk HE.out (Below.refl _ _)
 | false =>
  have HE : Hid (difB a b k = decide (k < b - a)) := hD (by unfold difB; rw [h1]; exact Bool.false_or _); go_enter Tryz.func76, Tryz.ntmps76; go_wp2_with fail; go_ret; exact retB_mk HE.out (Below.refl _ _)
theorem outside_any (n k : Int) (s : SpanV) (w : World) (hs : SpI s) (hk : 0 ≤ k ∧ k ≤ 1152921504606846976) : Calls Tryz.prog 75 #[.int .i64 n, .agg #[s.lo, s.hi], .int .i64 k] w (RetB (beyondB n s k) w) := by
 have W1 : IntKind.i64.wrap (-k) = -k := IntWalk.i64_in _ (by omega); have HR := hD ((RowsS.nil w).alloc (.cells #[s.lo, s.hi] 53)); go_enter Tryz.func75, Tryz.ntmps75; go_upto_region 1 with fail; generalize (w.alloc (.cells #[s.lo, s.hi] 53)) = w0 at *; go_wp2_with (first | (refine lRW (HR.out.row 0 rfl) undSp infoSp ?_)); refine (raddSp s ⟨-k, k⟩ _ hs ⟨⟨by show _ ≤ -k; omega, by show -k ≤ _; omega⟩, ⟨by show _ ≤ k; omega, by show k ≤ _; omega⟩⟩).mono ?_; rintro e w1 ⟨rfl, hb1⟩; unfold addSp; dsimp only; obtain ⟨x, hx⟩ : ∃ x, x = addS s.lo (-k) := ⟨_, rfl⟩; obtain ⟨y, hy⟩ : ∃ y, y = addS s.hi k := ⟨_, rfl⟩; rw [← hx, ← hy]
 have HE : Hid (beyondB n s k = (decide (n < x) || decide (y < n))) := hD (by
  unfold beyondB; rw [← hx, ← hy]; by_cases h1 : n < x
  · by_cases h2 : y < n <;> simp [h1, h2]
  · by_cases h2 : y < n <;> simp [h1, h2])
 have HR1 := hD ((HR.out.step hb1).alloc (.cells #[.int .i64 x, .int .i64 y] 53)); clear hb1 HR hx hy W1; go_upto_region 2 with fail; generalize w1.alloc (.cells #[.int .i64 x, .int .i64 y] 53) = w2 at *; have c0 := HR1.out.cell 1 0 rfl rfl; have c1 := HR1.out.cell 1 1 rfl rfl
 cases h1 : decide (n < x) with
 | true =>
  rw [h1] at HE; go_wp2_with fail; go_ret; exact retB_mk HE.out HR1.out.below
 | false =>
  rw [h1] at HE; go_wp2_with fail; go_ret; exact retB_mk (HE.out.trans (Bool.false_or _)) HR1.out.below
end Go.Proofs.YtjbjpkhibcnenaaGreatDoor
/- The reference of package audit: right, at. -/
namespace Go.Proofs.YtjbjpkhibcnenaaGreatDoor
set_option maxRecDepth 100000
set_option maxHeartbeats 8000000
open Go.RowKit
theorem right46_any (p : PublicV) (an : Option Addr) (nc : Nat) (w : World) (hN : LArg RSpan 2 (.slice an p.net.length nc) p.net w) (hl : p.net.length ≤ 9223372036854775807) : Calls Tryz.prog 99 #[.agg #[p.hour, .slice an p.net.length nc, p.mouth.lo, p.mouth.hi]] w (RetB (rightPb p) w) := by
 have HN := hD hN; have HR := hD ((RowsS.nil w).alloc (.cells #[p.hour, .slice an p.net.length nc, p.mouth.lo, p.mouth.hi] 55)); clear hN; go_enter Tryz.func99, Tryz.ntmps99; go_upto_region 1 with fail; generalize w.alloc (.cells #[p.hour, .slice an p.net.length nc, p.mouth.lo, p.mouth.hi] 55) = w0 at *; have c1 := HR.out.cell 0 1 rfl rfl; have HG : Hid (w0.rangeAt w.heap.size 2 [.int .i64 p.mouth.lo, .int .i64 p.mouth.hi]) := hD (rangeN (HR.out.row 0 rfl) 2 _ rfl); go_cut [3] (fun s3 wx => s3 = .bool (decide (p.net.length = 3) && rightSp p.mouth) ∧ RowsS w [(w.heap.size, .cells #[p.hour, .slice an p.net.length nc, p.mouth.lo, p.mouth.hi] 55)] wx)
 case first =>
  cases hn3 : decide (p.net.length = 3) with
  | true =>
   have t1 : ((p.net.length : Int) == 3) = true := by rw [beq_iff_eq]; have := of_decide_eq_true hn3; omega
   have t2 : decide ((p.net.length : Int) = 3) = true := decide_eq_true (by have := of_decide_eq_true hn3; omega); go_wp2_with (first | (refine lRG HG.out undSp infoSp ?_)); refine (rrightSp p.mouth _).mono ?_; rintro e w1 ⟨rfl, hb1⟩; have HR1 := hD (HR.out.step hb1); clear hb1; go_wp2_with fail; go_meet; exact ⟨by rw [hn3, Bool.true_and], HR1.out⟩
  | false =>
   have t1 : ((p.net.length : Int) == 3) = false := by rw [beq_eq_false_iff_ne]; have := of_decide_eq_false hn3; omega
   have t2 : decide ((p.net.length : Int) = 3) = false := decide_eq_false (by have := of_decide_eq_false hn3; omega); go_wp2_with fail; go_meet; exact ⟨by rw [hn3, Bool.false_and], HR.out⟩
 obtain ⟨rfl, hr1⟩ := hcut; have HR1 := hD hr1; clear hr1 HR c1 HG; obtain ⟨b0, hb0⟩ : ∃ b0, b0 = (decide (p.net.length = 3) && rightSp p.mouth) := ⟨_, rfl⟩; rw [← hb0]; have HB0 := hD hb0; clear hb0; go_wp2_with fail; go_loopw [3, 4] (fun ov iv wx => ∃ j : Nat, j ≤ p.net.length ∧ iv = .int .i64 j ∧ ov = .bool (b0 && (p.net.take j).all rightSp) ∧ RowsS w [(w.heap.size, .cells #[p.hour, .slice an p.net.length nc, p.mouth.lo, p.mouth.hi] 55)] wx) (fun _ iv _ => p.net.length - (Go.RowKit.intOf iv).toNat)
 case atStart => exact ⟨0, Nat.zero_le _, rfl, by rw [List.take_zero, List.all_nil, Bool.and_true], HR1.out⟩
 case round =>
  obtain ⟨j, hj, rfl, rfl, hr⟩ := hrel; have HR2 := hD hr; clear hr HR1; have c1 := HR2.out.cell 0 1 rfl rfl; by_cases hlj : j < p.net.length
  ·
   obtain ⟨s, hs⟩ : ∃ s, p.net[j]? = some s := ⟨_, List.getElem?_eq_getElem hlj⟩; obtain ⟨bn, on, cs, rfl, hbn, -, hrn, rfl, -⟩ := HN.out.at hs; have HRN := hD (rangeAt_below hrn HR2.out.below hbn); have HSN := hD (all_snoc (P := rightSp) hs); have hlj' : (j : Int) < (p.net.length : Int) := by omega
   clear hs hrn; obtain ⟨b1, hb1⟩ : ∃ b1, b1 = (b0 && (p.net.take j).all rightSp) := ⟨_, rfl⟩; rw [← hb1]; have HB1 : Hid ((b0 && (p.net.take (j + 1)).all rightSp) = (b1 && rightSp s)) := hD (by rw [HSN.out, hb1, Bool.and_assoc]); clear hb1 HSN
   cases b1 with
   | true =>
    go_wp2_with (first | (refine lRG HRN.out undSp infoSp ?_)); refine (rrightSp s _).mono ?_; rintro e w6 ⟨rfl, hb6⟩; have HR7 := hD (HR2.out.step hb6); clear hb6 HR2; go_wp2_with fail; go_roundw
    case rel => exact ⟨j + 1, by omega, by go_num, by rw [HB1.out, Bool.true_and], HR7.out⟩
    case measure => simp [Go.RowKit.intOf]; omega
   | false =>
    go_wp2_with fail; go_roundw
    case rel => exact ⟨j + 1, by omega, by go_num, by rw [HB1.out, Bool.false_and], HR2.out⟩
    case measure => simp [Go.RowKit.intOf]; omega
  ·
   obtain rfl : j = p.net.length := by omega
   have hlj' : ¬ (p.net.length : Int) < (p.net.length : Int) := by omega
   rw [List.take_length]; have HRP : Hid (rightPb p = (b0 && p.net.all rightSp)) := hD (by rw [HB0.out]; rfl); obtain ⟨b9, hb9⟩ : ∃ b9, b9 = (b0 && p.net.all rightSp) := ⟨_, rfl⟩; rw [← hb9]; have HB9 := hD hb9; clear hlj hj hb9; go_wp2_with fail; go_ret; exact retB_mk (HRP.out.trans HB9.out.symm) HR2.out.below
def RetAt (pubs : List PublicV) (h : Int) (w : World) (e : Ending) (w' : World) : Prop :=
 (match pubs.find? (fun p => decide (p.hour = h)) with
  | some p => ∃ an nc, e = .returned (.tuple #[.agg #[p.hour, .slice an p.net.length nc, p.mouth.lo, p.mouth.hi], .bool (rightPb p)]) ∧ LArg RSpan 2 (.slice an p.net.length nc) p.net w'
  | none => e = .returned (.tuple #[.agg #[(), .slice none 0 0, (), ()], .bool false])) ∧ Below w.heap.size w w'
theorem retAt_some {pubs : List PublicV} {h : Int} {p : PublicV} {an : Option Addr} {nc : Nat} {w w' : World} (hf : pubs.find? (fun p => decide (p.hour = h)) = some p) (hl : LArg RSpan 2 (.slice an p.net.length nc) p.net w') (hb : Below w.heap.size w w') : RetAt pubs h w (.returned (.tuple #[.agg #[p.hour, .slice an p.net.length nc, p.mouth.lo, p.mouth.hi], .bool (rightPb p)])) w' := by
 unfold RetAt; rw [hf]; exact ⟨⟨an, nc, rfl, hl⟩, hb⟩
theorem retAt_none {pubs : List PublicV} {h : Int} {w w' : World} (hf : pubs.find? (fun p => decide (p.hour = h)) = none) (hb : Below w.heap.size w w') : RetAt pubs h w (.returned (.tuple #[.agg #[(), .slice none 0 0, (), ()], .bool false])) w' := by
 unfold RetAt; rw [hf]; exact ⟨rfl, hb⟩
theorem findG_none {α : Type} {P : α → Bool} {l : List α} (h : ∀ (i : Nat) (x : α), i < l.length → l[i]? = some x → P x = false) : l.find? P = none := by
 rw [List.find?_eq_none]; intro x hx; obtain ⟨i, hi⟩ := List.getElem?_of_mem hx; rw [h i x (List.getElem?_eq_some_iff.1 hi).1 hi]
 decide
theorem findG_found {α : Type} {P : α → Bool} {l : List α} {k : Nat} {c : α} (h : ∀ (i : Nat) (x : α), i < k → l[i]? = some x → P x = false) (hc : l[k]? = some c) (hP : P c = true) : l.find? P = some c := by
 have e1 : l = l.take k ++ c :: l.drop (k + 1) := by
  obtain ⟨hk, e⟩ := List.getElem?_eq_some_iff.1 hc; rw [← e, List.getElem_cons_drop, List.take_append_drop]
 rw [e1, List.find?_append]
 have : (l.take k).find? P = none := findG_none (fun i x hi hx => by
  rw [List.getElem?_take] at hx
  split at hx
  · exact h i x (by assumption) hx
  · cases hx)
 rw [this, List.find?_cons_of_pos hP]
 rfl
theorem at46_any (pubs : List PublicV) (aq : Option Addr) (nq : Nat) (h : Int) (w : World) (hQ : LArg RPublic 4 (.slice aq pubs.length nq) pubs w) (hl : pubs.length ≤ 1000) : Calls Tryz.prog 81 #[.slice aq pubs.length nq, .int .i64 h] w (RetAt pubs h w) := by
 have HQ := hD hQ; have HR := hD ((RowsS.nil w).alloc (.cells #[(), .slice none 0 0, (), ()] 55)); clear hQ; go_enter Tryz.func81, Tryz.ntmps81; go_upto_region 1 with fail; generalize w.alloc (.cells #[(), .slice none 0 0, (), ()] 55) = w0 at *; go_wp2_with fail; go_loopw [6] (fun iv wx => ∃ k : Nat, k ≤ pubs.length ∧ iv = .int .i64 k ∧ (∀ (i : Nat) (x : PublicV), i < k → pubs[i]? = some x → decide (x.hour = h) = false) ∧ RowsS w [(w.heap.size, .cells #[(), .slice none 0 0, (), ()] 55)] wx) (fun iv _ => pubs.length - (Go.RowKit.intOf iv).toNat)
 case atStart => exact ⟨0, Nat.zero_le _, rfl, fun i x h => absurd h (Nat.not_lt_zero _), HR.out⟩
 case round =>
  obtain ⟨k, hk, rfl, hno, hr⟩ := hrel; have HNO := hD hno; have HR1 := hD hr; clear hno hr HR; by_cases hlt : k < pubs.length
  ·
   obtain ⟨p, hp⟩ : ∃ p, pubs[k]? = some p := ⟨_, List.getElem?_eq_getElem hlt⟩; obtain ⟨b, o, cs, rfl, hbl, -, hrg, u, rfl, -, -, -, hn⟩ := HQ.out.at hp; obtain ⟨an, nc, rfl, hn1, hn2⟩ := hn.slice; unfold maxLen at hn2; have hnl : p.net.length ≤ 9223372036854775807 := by omega
   have HRG : Hid (w.rangeAt b (o + k * 4) [.int .i64 p.hour, .slice an p.net.length nc, .int .i64 p.mouth.lo, .int .i64 p.mouth.hi]) := hD hrg; have HNn := hD hn; have HP := hD hp; have hlt' : (k : Int) < (pubs.length : Int) := by omega
   have c0 : wr.cell? ⟨b, o + k * 4, none⟩ = some (.int .i64 p.hour) := (HR1.out.below.cell (p := ⟨b, o + k * 4, none⟩) hbl).trans (hrg 0 _ rfl); clear hrg hn hp hn1 hn2; by_cases he : p.hour = h
   ·
    have e1 : (p.hour == h) = true := by rw [beq_iff_eq]; exact he
    have e2 : decide (p.hour = h) = true := decide_eq_true he; have HFn : Hid (pubs.find? (fun p => decide (p.hour = h)) = some p) := hD (findG_found HNO.out HP.out e2); clear he; go_upto_region 5 with fail; clear c0 e1 e2; obtain ⟨hRs, hZZ, hgZ, hnZ⟩ := HR1.out.split; refine wrd (S := RowsS w _) (hRs.drew) (fun yH => ?_); refine tn 0 ?_; refine tn 1 ?_; refine tn 2 ?_; refine tn 3 ?_ (hx := ldr HRG hbl undPb infoPb); refine tn 4 ?_; refine tn 5 ?_; refine tn 6 ?_; refine tn 7 ?_ (hx := ldr HRG hbl undPb infoPb); refine rd1 8 (fun K hK => ?_); go_simp; refine (right46_any p an nc _ (HNn.out.below stays_Span yH.below) hnl).mono ?_; rintro e w' ⟨rfl, hb⟩; have hZZ := (hb.block w.heap.size (blk_lt hZZ)).trans hZZ; refine hK.out _ _ (yH.step hb) (fun yH => ?_); clear hK K; refine rd1 9 (fun K hK => ?_); rw [if_pos (by rfl)]; refine wp_store_row 55 _ _ rfl w.heap.size #[p.hour, .slice an p.net.length nc, p.mouth.lo, p.mouth.hi] rfl rfl 55 #[(), .slice none 0 0, (), ()] hZZ infoPb rfl (by simp [Value.oneCell']) ?_; have hZZ := setRow_heap _ _ _ #[.int .i64 p.hour, .slice an p.net.length nc, .int .i64 p.mouth.lo, .int .i64 p.mouth.hi] _ _ hZZ; refine hK.out _ _ (yH.setOther hgZ hnZ _) (fun yH => ?_); clear hK K; refine tn 10 ?_; refine rdn ?_; go_wp2_with fail; exact bpr hZZ undPb infoPb (retAt_some HFn.out (HNn.out.below stays_Span yH.below) yH.below)
   ·
    have e1 : (p.hour == h) = false := by rw [beq_eq_false_iff_ne]; exact he
    have e2 : decide (p.hour = h) = false := decide_eq_false he; have HN2 := hD (upto_snoc (P := fun x : PublicV => decide (x.hour = h) = false) HNO.out HP.out e2); clear he; go_wp2_with fail; go_roundw
    case rel => exact ⟨k + 1, by omega, by go_num, HN2.out, HR1.out⟩
    case measure => simp [Go.RowKit.intOf]; omega
  ·
   obtain rfl : k = pubs.length := by omega
   have HFn : Hid (pubs.find? (fun p => decide (p.hour = h)) = none) := hD (findG_none HNO.out); have hlt' : ¬ (pubs.length : Int) < (pubs.length : Int) := by omega
   clear hlt hk; go_wp2_with (refine sRW #[(), .slice none 0 0, (), ()] (HR1.out.row 0 rfl) infoPb ?_); have HRZ := hD (HR1.out.set (i := 0) (cs' := #[(), .slice none 0 0, (), ()]) rfl); exact bpr (HRZ.out.row 0 rfl) undPb infoPb (retAt_none HFn.out HRZ.out.below)
end Go.Proofs.YtjbjpkhibcnenaaGreatDoor
/- The reference of package audit: sum, Net. -/
namespace Go.Proofs.YtjbjpkhibcnenaaGreatDoor
set_option maxRecDepth 100000
set_option maxHeartbeats 8000000
open Go.RowKit
def pickO (o : Int) : PublicV → SpanV := if o < 3 then netP o else mouthP
def sumR (pubs : List PublicV) (o f u : Int) : Option SpanV := if f ≤ u then sumN (hoursF pubs) (pickO o) f (u - f).toNat else none
theorem sumR_far {pubs : List PublicV} {o f u : Int} (h : (pubs.length : Int) < u - f) : sumR pubs o f u = none := by
 unfold sumR
 split
 ·
  cases hs : sumN (hoursF pubs) (pickO o) f (u - f).toNat with
  | none => rfl
  | some s =>
   have := sumN_len hs; omega
 · rfl
theorem sumR_stop {pubs : List PublicV} {o f u : Int} {j : Nat} (h : f + j < u) (hn : hoursF pubs (f + j) = none) : sumR pubs o f u = none := by
 unfold sumR; rw [if_pos (by omega)]; exact sumN_stop hn _ (by omega)
theorem hoursF_of {pubs : List PublicV} {h : Int} {p : PublicV} (hf : pubs.find? (fun p => decide (p.hour = h)) = some p) : hoursF pubs h = if rightPb p = true then some p else none := by
 unfold hoursF; rw [hf]
theorem hoursF_no {pubs : List PublicV} {h : Int} (hf : pubs.find? (fun p => decide (p.hour = h)) = none) : hoursF pubs h = none := by
 unfold hoursF; rw [hf]
theorem pickO_I {o : Int} {p : PublicV} (h : PbI p) : SpI (pickO o p) := by
 unfold pickO
 split
 · exact netP_I h
 · exact h.2.1
theorem retSm_none {r : Option SpanV} {w w' : World} (h : r = none) (hb : Below w.heap.size w w') : RetBt r w (.returned (.tuple #[.agg #[(), ()], .bool false])) w' := by subst h; exact ⟨rfl, hb⟩
theorem retSm_some {r : Option SpanV} {t : SpanV} {w w' : World} (h : r = some t) (hb : Below w.heap.size w w') : RetBt r w (.returned (.tuple #[.agg #[t.lo, t.hi], .bool true])) w' := by subst h; exact ⟨rfl, hb⟩
theorem sum46_any (pubs : List PublicV) (aq : Option Addr) (nq : Nat) (o f u : Int) (w : World) (hQ : LArg RPublic 4 (.slice aq pubs.length nq) pubs w) (hl : pubs.length ≤ 1000) (ho : 0 ≤ o ∧ o ≤ 3) (hf : I64 f) (hu : I64 u) (hI : ∀ p ∈ pubs, PbI p) : Calls Tryz.prog 46 #[.slice aq pubs.length nq, o, .int .i64 f, .int .i64 u] w (RetBt (sumR pubs o f u) w) := by
 have HQ := hD hQ; have HPI := hD hI; unfold I64 at hf hu; have s1 : (w.alloc (.cells #[(), ()] 53)).heap.size = w.heap.size + 1 := by simp
 have HR0 : Hid (RowsS w [(w.heap.size, .cells #[(), ()] 53), ((w.heap.size + 1), .cells #[(), ()] 53)] ((w.alloc (.cells #[(), ()] 53)).alloc (.cells #[(), ()] 53))) := hD (by
  have := ((RowsS.nil w).alloc (.cells #[(), ()] 53)).alloc (.cells #[(), ()] 53); rw [s1] at this
  exact this)
 clear hQ hI s1; by_cases h1 : u < f
 ·
  have q1 : decide (u < f) = true := decide_eq_true h1; have HN : Hid (sumR pubs o f u = none) := hD (by unfold sumR; rw [if_neg (by omega)]); clear h1

  go_enter Tryz.func46, Tryz.ntmps46; go_upto_region 2 with fail; generalize ((w.alloc (.cells #[(), ()] 53)).alloc (.cells #[(), ()] 53)) = w0 at *; go_wp2_with (first | (refine lRW (HR0.out.row 1 rfl) undSp infoSp ?_) | (refine sRW #[(), ()] (HR0.out.row 0 rfl) infoSp ?_)); have HRZ := hD (HR0.out.set (i := 0) (cs' := #[(), ()]) rfl); exact bpr (HRZ.out.row 0 rfl) undSp infoSp (retSm_none HN.out HRZ.out.below)
 ·
  have q1 : decide (u < f) = false := decide_eq_false h1; by_cases hz : f < 0
  ·
   have q2 : decide (f < 0) = true := decide_eq_true hz; by_cases h2 : (pubs.length : Int) < u
   ·
    have q3 : decide ((pubs.length : Int) < u) = true := decide_eq_true h2; have HN : Hid (sumR pubs o f u = none) := hD (sumR_far (by omega)); clear h2 hz h1

    go_enter Tryz.func46, Tryz.ntmps46; go_upto_region 2 with fail; generalize ((w.alloc (.cells #[(), ()] 53)).alloc (.cells #[(), ()] 53)) = w0 at *; go_wp2_with (first | (refine lRW (HR0.out.row 1 rfl) undSp infoSp ?_) | (refine sRW #[(), ()] (HR0.out.row 0 rfl) infoSp ?_)); have HRZ := hD (HR0.out.set (i := 0) (cs' := #[(), ()]) rfl); exact bpr (HRZ.out.row 0 rfl) undSp infoSp (retSm_none HN.out HRZ.out.below)
   ·
    have q3 : decide ((pubs.length : Int) < u) = false := decide_eq_false h2; have q4 : decide (0 ≤ f) = false := decide_eq_false (by omega); clear h2 hz; go_enter Tryz.func46, Tryz.ntmps46; go_upto_region 2 with fail; generalize ((w.alloc (.cells #[(), ()] 53)).alloc (.cells #[(), ()] 53)) = w0 at *; go_wp2_with fail; go_loopw [11] (fun iv wx => ∃ (j : Nat) (t : SpanV), iv = .int .i64 (f + j) ∧ sumN (hoursF pubs) (pickO o) f j = some t ∧ f + j ≤ u ∧ RowsS w [(w.heap.size, .cells #[(), ()] 53), ((w.heap.size + 1), .cells #[t.lo, t.hi] 53)] wx) (fun iv _ => (u - Go.RowKit.intOf iv).toNat)
    case atStart => exact ⟨0, ⟨0, 0⟩, by rw [show f + ((0 : Nat) : Int) = f by omega], rfl, by omega, HR0.out⟩
    case round =>
     obtain ⟨j, t, rfl, ht, hju, hr⟩ := hrel; have HTS := hD ht; have HTI := hD (sumN_bd ht); have HR1 := hD hr; clear ht hr HR0; by_cases hlt : f + (j : Int) < u
     ·
      have ql : decide (f + (j : Int) < u) = true := decide_eq_true hlt; go_wp2_with fail; refine (at46_any pubs aq nq (f + j) _ (HQ.out.below stays_Public HR1.out.below) hl).mono ?_; rintro e w3 ⟨hret, hb3⟩; have HR3 := hD (HR1.out.step hb3); clear hb3 HR1
      cases hfd : pubs.find? (fun p => decide (p.hour = f + j)) with
      | none =>
       rw [hfd] at hret; dsimp only at hret; subst hret; have HRa := hD (HR3.out.alloc (.cells #[(), .slice none 0 0, (), ()] 55)); have HN := hD (sumR_stop (o := o) hlt (hoursF_no hfd)); go_upto_region 9 with fail; generalize w3.alloc (.cells #[(), .slice none 0 0, (), ()] 55) = w4 at *; go_wp2_with (refine sRW #[(), ()] (HRa.out.row 0 rfl) infoSp ?_); have HRZ := hD (HRa.out.set (i := 0) (cs' := #[(), ()]) rfl); exact bpr (HRZ.out.row 0 rfl) undSp infoSp (retSm_none HN.out HRZ.out.below)
      | some p =>
       rw [hfd] at hret; obtain ⟨an, nc, he, hnet⟩ := hret; have hh := hoursF_of hfd
       cases hrp : rightPb p with
       | false =>
        rw [hrp] at he hh; rw [if_neg (by decide)] at hh; subst he; have HRa := hD (HR3.out.alloc (.cells #[p.hour, .slice an p.net.length nc, p.mouth.lo, p.mouth.hi] 55)); have HN := hD (sumR_stop (o := o) hlt hh); go_upto_region 9 with fail; generalize w3.alloc (.cells #[p.hour, .slice an p.net.length nc, p.mouth.lo, p.mouth.hi] 55) = w4 at *; go_wp2_with (refine sRW #[(), ()] (HRa.out.row 0 rfl) infoSp ?_); have HRZ := hD (HRa.out.set (i := 0) (cs' := #[(), ()]) rfl); exact bpr (HRZ.out.row 0 rfl) undSp infoSp (retSm_none HN.out HRZ.out.below)
       | true =>
        rw [hrp] at he hh; rw [if_pos rfl] at hh; subst he; have hpm := (hoursF_mem hh).1; have HHr := hD hh; have hal : Below w3.heap.size w3 (w3.alloc (.cells #[p.hour, .slice an p.net.length nc, p.mouth.lo, p.mouth.hi] 55)) := (Below.refl _ _).alloc (Nat.le_refl _) _; have HNt := hD (hnet.below stays_Span hal); have HR4 := hD (HR3.out.alloc (.cells #[p.hour, .slice an p.net.length nc, p.mouth.lo, p.mouth.hi] 55)); have HNL := hD (right_len hrp); have hSI := pickO_I (o := o) (HPI.out p hpm); clear hfd hh hnet hal hpm HR3; go_upto_region 10 with fail; generalize w3.alloc (.cells #[p.hour, .slice an p.net.length nc, p.mouth.lo, p.mouth.hi] 55) = w4 at *; generalize w3.heap.size = bP at *; have HGm : Hid (w4.rangeAt bP 2 [.int .i64 p.mouth.lo, .int .i64 p.mouth.hi]) := hD (rangeN (HR4.out.row 2 rfl) 2 _ rfl); have HR5 := hD (HR4.out.alloc (.cells #[p.mouth.lo, p.mouth.hi] 53)); have hal : Below w4.heap.size w4 (w4.alloc (.cells #[p.mouth.lo, p.mouth.hi] 53)) := (Below.refl _ _).alloc (Nat.le_refl _) _; have HN5 := hD (HNt.out.below stays_Span hal); clear hal HR4 HNt; go_upto_region 11 with (first | (refine lRG HGm.out undSp infoSp ?_)); clear HGm; generalize w4.alloc (.cells #[p.mouth.lo, p.mouth.hi] 53) = w5 at *; generalize w4.heap.size = bS at *; by_cases ho3 : o < 3
        ·
         have qo : decide (o < 3) = true := decide_eq_true ho3; obtain ⟨i, hi⟩ : ∃ i : Nat, o = (i : Int) := ⟨o.toNat, by omega⟩; obtain ⟨s, hs⟩ : ∃ s, p.net[i]? = some s := ⟨_, List.getElem?_eq_getElem (by have := HNL.out; omega)⟩; have hps : pickO o p = s := by unfold pickO netP; rw [if_pos ho3, hi, Int.toNat_natCast, hs]; rfl
         rw [hps] at hSI; have HSI := hD hSI; obtain ⟨bn, on, csn, rfl, hbn, -, hrn, rfl, -⟩ := HN5.out.at hs; have HRN : Hid (w5.rangeAt bn (on + i * 2) [.int .i64 s.lo, .int .i64 s.hi]) := hD hrn; have c1 := HR5.out.cell 2 1 rfl rfl; subst hi; have hi3 : (i : Int) < (p.net.length : Int) := by have := HNL.out; omega
         have hi3n : i < p.net.length := by omega
         clear hs hrn hSI ho3; go_upto_region 13 with (first | (refine lRG HRN.out undSp infoSp ?_) | (refine sRW #[s.lo, s.hi] (HR5.out.row 3 rfl) infoSp ?_)); have HR5b := hD (HR5.out.set (i := 3) (cs' := #[s.lo, s.hi]) rfl); clear c1 HRN HR5 HN5; generalize w5.setRow bS #[.int .i64 s.lo, .int .i64 s.hi] = w5b at *; have HPs : Hid (pickO (i : Int) p = s) := hD hps; clear hps; go_wp2_with (first | (refine lRW (HR5b.out.row 1 rfl) undSp infoSp ?_) | (refine lRW (HR5b.out.row 3 rfl) undSp infoSp ?_)); refine (raddSp t s _ HTI.out HSI.out).mono ?_; rintro e w6 ⟨rfl, hb6⟩; have HR6 := hD (HR5b.out.step hb6); clear hb6; unfold addSp; dsimp only; obtain ⟨x, hx⟩ : ∃ x, x = addS t.lo s.lo := ⟨_, rfl⟩; obtain ⟨y, hy⟩ : ∃ y, y = addS t.hi s.hi := ⟨_, rfl⟩; rw [← hx, ← hy]; have HNX : Hid (sumN (hoursF pubs) (pickO (i : Int)) f (j + 1) = some ⟨x, y⟩) := hD (by rw [sumN_succ HTS.out HHr.out, HPs.out, hx, hy]; rfl); clear hx hy; go_wp2_with (refine sRW #[.int .i64 x, .int .i64 y] (HR6.out.row 1 rfl) infoSp ?_); have HR7 := hD ((HR6.out.set (i := 1) (cs' := #[.int .i64 x, .int .i64 y]) rfl).take 2); go_roundw
         case rel => exact ⟨j + 1, ⟨x, y⟩, by go_num, HNX.out, by omega, HR7.out⟩
         case measure => simp [Go.RowKit.intOf]; omega
        ·
         have qo : decide (o < 3) = false := decide_eq_false ho3; have hps : pickO o p = p.mouth := by unfold pickO; rw [if_neg ho3]; rfl
         rw [hps] at hSI; have HSI := hD hSI; clear hSI ho3; have HPs : Hid (pickO o p = p.mouth) := hD hps; clear hps; go_wp2_with (first | (refine lRW (HR5.out.row 1 rfl) undSp infoSp ?_) | (refine lRW (HR5.out.row 3 rfl) undSp infoSp ?_)); refine (raddSp t p.mouth _ HTI.out HSI.out).mono ?_; rintro e w6 ⟨rfl, hb6⟩; have HR6 := hD (HR5.out.step hb6); clear hb6; unfold addSp; dsimp only; obtain ⟨x, hx⟩ : ∃ x, x = addS t.lo p.mouth.lo := ⟨_, rfl⟩; obtain ⟨y, hy⟩ : ∃ y, y = addS t.hi p.mouth.hi := ⟨_, rfl⟩; rw [← hx, ← hy]; have HNX : Hid (sumN (hoursF pubs) (pickO o) f (j + 1) = some ⟨x, y⟩) := hD (by rw [sumN_succ HTS.out HHr.out, HPs.out, hx, hy]; rfl); clear hx hy; go_wp2_with (refine sRW #[.int .i64 x, .int .i64 y] (HR6.out.row 1 rfl) infoSp ?_); have HR7 := hD ((HR6.out.set (i := 1) (cs' := #[.int .i64 x, .int .i64 y]) rfl).take 2); go_roundw
         case rel => exact ⟨j + 1, ⟨x, y⟩, by go_num, HNX.out, by omega, HR7.out⟩
         case measure => simp [Go.RowKit.intOf]; omega
     ·
      have ql : decide (f + (j : Int) < u) = false := decide_eq_false hlt
      have HN : Hid (sumR pubs o f u = some t) := hD (by
       unfold sumR; rw [if_pos (by omega), show (u - f).toNat = j by omega]
       exact HTS.out)
      clear hlt; go_wp2_with (first | (refine lRW (HR1.out.row 1 rfl) undSp infoSp ?_) | (refine sRW #[t.lo, t.hi] (HR1.out.row 0 rfl) infoSp ?_)); have HRZ := hD (HR1.out.set (i := 0) (cs' := #[t.lo, t.hi]) rfl); exact bpr (HRZ.out.row 0 rfl) undSp infoSp (retSm_some HN.out HRZ.out.below)
  ·
   have q2 : decide (f < 0) = false := decide_eq_false hz; have q4 : decide (0 ≤ f) = true := decide_eq_true (by omega); have W1 : IntKind.i64.wrap (u - f) = u - f := IntWalk.i64_in _ (by omega); by_cases h2 : (pubs.length : Int) < u - f
   ·
    have q3 : decide ((pubs.length : Int) < u - f) = true := decide_eq_true h2; have HN : Hid (sumR pubs o f u = none) := hD (sumR_far h2); clear h2 hz h1

    go_enter Tryz.func46, Tryz.ntmps46; go_upto_region 2 with fail; generalize ((w.alloc (.cells #[(), ()] 53)).alloc (.cells #[(), ()] 53)) = w0 at *; go_wp2_with (first | (refine lRW (HR0.out.row 1 rfl) undSp infoSp ?_) | (refine sRW #[(), ()] (HR0.out.row 0 rfl) infoSp ?_)); have HRZ := hD (HR0.out.set (i := 0) (cs' := #[(), ()]) rfl); exact bpr (HRZ.out.row 0 rfl) undSp infoSp (retSm_none HN.out HRZ.out.below)
   ·
    have q3 : decide ((pubs.length : Int) < u - f) = false := decide_eq_false h2; clear h2 hz; go_enter Tryz.func46, Tryz.ntmps46; go_upto_region 2 with fail; generalize ((w.alloc (.cells #[(), ()] 53)).alloc (.cells #[(), ()] 53)) = w0 at *; go_wp2_with fail; go_loopw [11] (fun iv wx => ∃ (j : Nat) (t : SpanV), iv = .int .i64 (f + j) ∧ sumN (hoursF pubs) (pickO o) f j = some t ∧ f + j ≤ u ∧ RowsS w [(w.heap.size, .cells #[(), ()] 53), ((w.heap.size + 1), .cells #[t.lo, t.hi] 53)] wx) (fun iv _ => (u - Go.RowKit.intOf iv).toNat)
    case atStart => exact ⟨0, ⟨0, 0⟩, by rw [show f + ((0 : Nat) : Int) = f by omega], rfl, by omega, HR0.out⟩
    case round =>
     obtain ⟨j, t, rfl, ht, hju, hr⟩ := hrel; have HTS := hD ht; have HTI := hD (sumN_bd ht); have HR1 := hD hr; clear ht hr HR0; by_cases hlt : f + (j : Int) < u
     ·
      have ql : decide (f + (j : Int) < u) = true := decide_eq_true hlt; go_wp2_with fail; refine (at46_any pubs aq nq (f + j) _ (HQ.out.below stays_Public HR1.out.below) hl).mono ?_; rintro e w3 ⟨hret, hb3⟩; have HR3 := hD (HR1.out.step hb3); clear hb3 HR1
      cases hfd : pubs.find? (fun p => decide (p.hour = f + j)) with
      | none =>
       rw [hfd] at hret; dsimp only at hret; subst hret; have HRa := hD (HR3.out.alloc (.cells #[(), .slice none 0 0, (), ()] 55)); have HN := hD (sumR_stop (o := o) hlt (hoursF_no hfd)); go_upto_region 9 with fail; generalize w3.alloc (.cells #[(), .slice none 0 0, (), ()] 55) = w4 at *; go_wp2_with (refine sRW #[(), ()] (HRa.out.row 0 rfl) infoSp ?_); have HRZ := hD (HRa.out.set (i := 0) (cs' := #[(), ()]) rfl); exact bpr (HRZ.out.row 0 rfl) undSp infoSp (retSm_none HN.out HRZ.out.below)
      | some p =>
       rw [hfd] at hret; obtain ⟨an, nc, he, hnet⟩ := hret; have hh := hoursF_of hfd
       cases hrp : rightPb p with
       | false =>
        rw [hrp] at he hh; rw [if_neg (by decide)] at hh; subst he; have HRa := hD (HR3.out.alloc (.cells #[p.hour, .slice an p.net.length nc, p.mouth.lo, p.mouth.hi] 55)); have HN := hD (sumR_stop (o := o) hlt hh); go_upto_region 9 with fail; generalize w3.alloc (.cells #[p.hour, .slice an p.net.length nc, p.mouth.lo, p.mouth.hi] 55) = w4 at *; go_wp2_with (refine sRW #[(), ()] (HRa.out.row 0 rfl) infoSp ?_); have HRZ := hD (HRa.out.set (i := 0) (cs' := #[(), ()]) rfl); exact bpr (HRZ.out.row 0 rfl) undSp infoSp (retSm_none HN.out HRZ.out.below)
       | true =>
        rw [hrp] at he hh; rw [if_pos rfl] at hh; subst he; have hpm := (hoursF_mem hh).1; have HHr := hD hh; have hal : Below w3.heap.size w3 (w3.alloc (.cells #[p.hour, .slice an p.net.length nc, p.mouth.lo, p.mouth.hi] 55)) := (Below.refl _ _).alloc (Nat.le_refl _) _; have HNt := hD (hnet.below stays_Span hal); have HR4 := hD (HR3.out.alloc (.cells #[p.hour, .slice an p.net.length nc, p.mouth.lo, p.mouth.hi] 55)); have HNL := hD (right_len hrp); have hSI := pickO_I (o := o) (HPI.out p hpm); clear hfd hh hnet hal hpm HR3; go_upto_region 10 with fail; generalize w3.alloc (.cells #[p.hour, .slice an p.net.length nc, p.mouth.lo, p.mouth.hi] 55) = w4 at *; generalize w3.heap.size = bP at *; have HGm : Hid (w4.rangeAt bP 2 [.int .i64 p.mouth.lo, .int .i64 p.mouth.hi]) := hD (rangeN (HR4.out.row 2 rfl) 2 _ rfl); have HR5 := hD (HR4.out.alloc (.cells #[p.mouth.lo, p.mouth.hi] 53)); have hal : Below w4.heap.size w4 (w4.alloc (.cells #[p.mouth.lo, p.mouth.hi] 53)) := (Below.refl _ _).alloc (Nat.le_refl _) _; have HN5 := hD (HNt.out.below stays_Span hal); clear hal HR4 HNt; go_upto_region 11 with (first | (refine lRG HGm.out undSp infoSp ?_)); clear HGm; generalize w4.alloc (.cells #[p.mouth.lo, p.mouth.hi] 53) = w5 at *; generalize w4.heap.size = bS at *; by_cases ho3 : o < 3
        ·
         have qo : decide (o < 3) = true := decide_eq_true ho3; obtain ⟨i, hi⟩ : ∃ i : Nat, o = (i : Int) := ⟨o.toNat, by omega⟩; obtain ⟨s, hs⟩ : ∃ s, p.net[i]? = some s := ⟨_, List.getElem?_eq_getElem (by have := HNL.out; omega)⟩; have hps : pickO o p = s := by unfold pickO netP; rw [if_pos ho3, hi, Int.toNat_natCast, hs]; rfl
         rw [hps] at hSI; have HSI := hD hSI; obtain ⟨bn, on, csn, rfl, hbn, -, hrn, rfl, -⟩ := HN5.out.at hs; have HRN : Hid (w5.rangeAt bn (on + i * 2) [.int .i64 s.lo, .int .i64 s.hi]) := hD hrn; have c1 := HR5.out.cell 2 1 rfl rfl; subst hi; have hi3 : (i : Int) < (p.net.length : Int) := by have := HNL.out; omega
         have hi3n : i < p.net.length := by omega
         clear hs hrn hSI ho3; go_upto_region 13 with (first | (refine lRG HRN.out undSp infoSp ?_) | (refine sRW #[s.lo, s.hi] (HR5.out.row 3 rfl) infoSp ?_)); have HR5b := hD (HR5.out.set (i := 3) (cs' := #[s.lo, s.hi]) rfl); clear c1 HRN HR5 HN5; generalize w5.setRow bS #[.int .i64 s.lo, .int .i64 s.hi] = w5b at *; have HPs : Hid (pickO (i : Int) p = s) := hD hps; clear hps; go_wp2_with (first | (refine lRW (HR5b.out.row 1 rfl) undSp infoSp ?_) | (refine lRW (HR5b.out.row 3 rfl) undSp infoSp ?_)); refine (raddSp t s _ HTI.out HSI.out).mono ?_; rintro e w6 ⟨rfl, hb6⟩; have HR6 := hD (HR5b.out.step hb6); clear hb6; unfold addSp; dsimp only; obtain ⟨x, hx⟩ : ∃ x, x = addS t.lo s.lo := ⟨_, rfl⟩; obtain ⟨y, hy⟩ : ∃ y, y = addS t.hi s.hi := ⟨_, rfl⟩; rw [← hx, ← hy]; have HNX : Hid (sumN (hoursF pubs) (pickO (i : Int)) f (j + 1) = some ⟨x, y⟩) := hD (by rw [sumN_succ HTS.out HHr.out, HPs.out, hx, hy]; rfl); clear hx hy; go_wp2_with (refine sRW #[.int .i64 x, .int .i64 y] (HR6.out.row 1 rfl) infoSp ?_); have HR7 := hD ((HR6.out.set (i := 1) (cs' := #[.int .i64 x, .int .i64 y]) rfl).take 2); go_roundw
         case rel => exact ⟨j + 1, ⟨x, y⟩, by go_num, HNX.out, by omega, HR7.out⟩
         case measure => simp [Go.RowKit.intOf]; omega
        ·
         have qo : decide (o < 3) = false := decide_eq_false ho3; have hps : pickO o p = p.mouth := by unfold pickO; rw [if_neg ho3]; rfl
         rw [hps] at hSI; have HSI := hD hSI; clear hSI ho3; have HPs : Hid (pickO o p = p.mouth) := hD hps; clear hps; go_wp2_with (first | (refine lRW (HR5.out.row 1 rfl) undSp infoSp ?_) | (refine lRW (HR5.out.row 3 rfl) undSp infoSp ?_)); refine (raddSp t p.mouth _ HTI.out HSI.out).mono ?_; rintro e w6 ⟨rfl, hb6⟩; have HR6 := hD (HR5.out.step hb6); clear hb6; unfold addSp; dsimp only; obtain ⟨x, hx⟩ : ∃ x, x = addS t.lo p.mouth.lo := ⟨_, rfl⟩; obtain ⟨y, hy⟩ : ∃ y, y = addS t.hi p.mouth.hi := ⟨_, rfl⟩; rw [← hx, ← hy]; have HNX : Hid (sumN (hoursF pubs) (pickO o) f (j + 1) = some ⟨x, y⟩) := hD (by rw [sumN_succ HTS.out HHr.out, HPs.out, hx, hy]; rfl); clear hx hy; go_wp2_with (refine sRW #[.int .i64 x, .int .i64 y] (HR6.out.row 1 rfl) infoSp ?_); have HR7 := hD ((HR6.out.set (i := 1) (cs' := #[.int .i64 x, .int .i64 y]) rfl).take 2); go_roundw
         case rel => exact ⟨j + 1, ⟨x, y⟩, by go_num, HNX.out, by omega, HR7.out⟩
         case measure => simp [Go.RowKit.intOf]; omega
     ·
      have ql : decide (f + (j : Int) < u) = false := decide_eq_false hlt
      have HN : Hid (sumR pubs o f u = some t) := hD (by
       unfold sumR; rw [if_pos (by omega), show (u - f).toNat = j by omega]
       exact HTS.out)
      clear hlt; go_wp2_with (first | (refine lRW (HR1.out.row 1 rfl) undSp infoSp ?_) | (refine sRW #[t.lo, t.hi] (HR1.out.row 0 rfl) infoSp ?_)); have HRZ := hD (HR1.out.set (i := 0) (cs' := #[t.lo, t.hi]) rfl); exact bpr (HRZ.out.row 0 rfl) undSp infoSp (retSm_some HN.out HRZ.out.below)
end Go.Proofs.YtjbjpkhibcnenaaGreatDoor
