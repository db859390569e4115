/- audit.byHour: the walk. -/
import Derived.Deep.DeepCutAuto
import Derived.Test.YtjbjpkhibcnenaaGreatDoorAForkL
namespace Go.Proofs.YtjbjpkhibcnenaaGreatDoor
set_option maxRecDepth 100000
set_option maxHeartbeats 4000000
open Go.RowKit
theorem all_snoc {α : Type} {P : α → Bool} {l : List α} {j : Nat} {x : α} (h : l[j]? = some x) : (l.take (j + 1)).all P = ((l.take j).all P && P x) := by
 rw [List.take_add_one, h]; simp
theorem i64_put {w c : World} {zs : List QV} {bE sb mb n : Nat} {fs fh : Int → Option Value} {q : QV} (h : BY w zs bE sb mb n fs fh q c) (hq : I64 q.1.hour) (hn : n < maxLen) (hne : sb ≠ mb) (hE : bE ≠ sb) (hw : w.heap.size ≤ sb) :
 ∃ c', (Instr.mapUpdate 122 (.map (some sb)) (.int .i64 q.1.hour) (.bool true)).run Tryz.prog c = .ok () c' ∧ BY w zs bE sb mb (n + 1) (fun s => if s = q.1.hour then some (.bool true) else fs s) fh q c' := by
 obtain ⟨c', h1, h2, h3⟩ := h.seen.put undMB hq (v := .bool true) (Or.inr (by simp)) hn; refine ⟨c', h1, ⟨(h3.block bE (blk_lt h.row) (by simp [hE])).trans h.row, h2, (h.hours.keep (h3.block mb h.hours.lt (by simp [hne.symm]))).mono (Nat.le_succ _), h.below.grown h3 h.below.size (fun k e => by cases e; exact hw)⟩⟩
theorem pub_put {w c : World} {zs : List QV} {bE sb mb n : Nat} {fs fh : Int → Option Value} {q : QV} (h : BY w zs bE sb mb n fs fh q c) (hq : I64 q.1.hour) (hm : q ∈ zs) (hn : n < maxLen) (hne : sb ≠ mb) (hE : bE ≠ mb) (hw : w.heap.size ≤ mb) :
 ∃ c', (Instr.mapUpdate 90 (.map (some mb)) (.int .i64 q.1.hour) (pbV q)).run Tryz.prog c = .ok () c' ∧ BY w zs bE sb mb (n + 1) fs (fun s => if s = q.1.hour then some (pbV q) else fh s) q c' := by
 obtain ⟨c', h1, h2, h3⟩ := h.hours.put undMP hq (v := pbV q) (Or.inr (List.mem_map.2 ⟨q, hm, rfl⟩)) hn; refine ⟨c', h1, ⟨(h3.block bE (blk_lt h.row) (by simp [hE])).trans h.row, (h.seen.keep (h3.block sb h.seen.lt (by simp [hne]))).mono (Nat.le_succ _), h2, h.below.grown h3 h.below.size (fun k e => by cases e; exact hw)⟩⟩
theorem byHour_any (pubs : List PublicV) (v : Value) (w : World) (h : LArg RPublic 4 v pubs w) (hl : pubs.length ≤ 1000) :
 Calls Tryz.prog 44 #[v] w fun e w' => ∃ mb, e = .returned (.map (some mb)) ∧ HoursAt mb pubs w' ∧ Below w.heap.size w w' := by
 have hmm := @run_makeMap Tryz.prog; obtain ⟨al, lc, rfl, hlc, hlm⟩ := h.slice; obtain ⟨zs, hzs, hz⟩ := qs_of h; have hzl : pubs.length = zs.length := by rw [← hzs, List.length_map]
 have HZ := hD hz; have HZS := hD hzs; rw [hzl] at hl ⊢; clear h hz hzs hlc hlm hzl; go_enter Tryz.func44, Tryz.ntmps44; go_upto_region 3 with fail; clear hmm; have s1 : (w.alloc (.map #[] 0)).heap.size = w.heap.size + 1 := by simp
 have HS0 : Hid (MapF (.bool false) [.bool true] ((w.alloc (.map #[] 0)).alloc (.map #[] 0)) w.heap.size 0 (fun _ => none)) := hD ((MapF.made _ _ w).below ((Below.refl _ _).alloc (Nat.le_refl _) _))
 have HM0 : Hid (MapF zPb (zs.map pbV) ((w.alloc (.map #[] 0)).alloc (.map #[] 0)) (w.heap.size + 1) 0 (fun _ => none)) := hD (by
  have := MapF.made zPb (zs.map pbV) (w.alloc (.map #[] 0)); rw [s1] at this
  exact this)
 have HB0 : Hid (Below w.heap.size w ((w.alloc (.map #[] 0)).alloc (.map #[] 0))) := hD (((Below.refl _ _).alloc (Nat.le_refl _) _).alloc (by rw [s1]; omega) _); clear s1; generalize (w.alloc (.map #[] 0)).alloc (.map #[] 0) = w0 at *; go_wp2_with fail; go_loopw [14] (fun iv wr => ∃ k : Nat, k ≤ zs.length ∧ iv = .int .i64 k ∧ MapF (.bool false) [.bool true] wr w.heap.size (2 * k) (seenF (zs.take k)) ∧ MapF zPb (zs.map pbV) wr (w.heap.size + 1) (2 * k) (hoursV (zs.take k)) ∧ Below w.heap.size w wr) (fun iv _ => zs.length - (Go.RowKit.intOf iv).toNat)
 case atStart => exact ⟨0, Nat.zero_le _, rfl, HS0.out, HM0.out, HB0.out⟩
 case round =>
  obtain ⟨k, hk, rfl, hse, hho, hbe⟩ := hrel; have HSE := hD hse; have HHO := hD hho; have HBE := hD hbe; clear hse hho hbe HS0 HM0 HB0; by_cases hlt : k < zs.length
  ·
   obtain ⟨q, hq⟩ : ∃ q, zs[k]? = some q := ⟨_, List.getElem?_eq_getElem hlt⟩; obtain ⟨b, o, rfl, hb, hrg, hI, hM, hN⟩ := HZ.out k q hq; have hqm := List.mem_of_getElem? hq; have HQ := hD hq; have HQM := hD hqm; have HRG := hD (rangeAt_below hrg HBE.out hb); have HIH := hD hI; have HMM := hD hM; have HN := hD hN; obtain ⟨an, nc, hq2, hnl, hnm⟩ := HN.out.slice; obtain ⟨q1, q2⟩ := q; dsimp only at hq2 hnl; subst hq2; have hnl2 : q1.net.length ≤ 9223372036854775807 := by unfold maxLen at hnm; omega
   clear hq hqm hrg hI hM hN hnl hnm; have ha : Below wr.heap.size wr (wr.alloc (.cells #[q1.hour, .slice an q1.net.length nc, q1.mouth.lo, q1.mouth.hi] 55)) := (Below.refl _ _).alloc (Nat.le_refl _) (.cells #[q1.hour, .slice an q1.net.length nc, q1.mouth.lo, q1.mouth.hi] 55); have HA : Hid (BY w zs wr.heap.size w.heap.size (w.heap.size + 1) (2 * k) (seenF (zs.take k)) (hoursV (zs.take k)) (q1, .slice an q1.net.length nc) (wr.alloc (.cells #[q1.hour, .slice an q1.net.length nc, q1.mouth.lo, q1.mouth.hi] 55))) := hD ⟨heap_alloc_new wr (.cells #[q1.hour, .slice an q1.net.length nc, q1.mouth.lo, q1.mouth.hi] 55), HSE.out.below ha, HHO.out.below ha, HBE.out.trans (ha.mono HBE.out.size)⟩; have hE1 : wr.heap.size ≠ w.heap.size := (Nat.ne_of_lt HSE.out.lt).symm; have hE2 : wr.heap.size ≠ w.heap.size + 1 := (Nat.ne_of_lt HHO.out.lt).symm; have hE3 : w.heap.size ≤ wr.heap.size := HBE.out.size; clear ha HSE HHO HBE; go_upto_region 6 with (refine lRG HRG.out undPb infoPb ?_); clear HRG; generalize wr.alloc (.cells #[q1.hour, .slice an q1.net.length nc, q1.mouth.lo, q1.mouth.hi] 55) = w2 at *; generalize wr.heap.size = bE at *; have hlk := HA.out.seen.look undMB (zeroB w2) HIH.out; have c0 := rowN HA.out.row 0 (.int .i64 q1.hour) rfl; dsimp only at hlk
   cases hs : seenF (zs.take k) q1.hour with
   | some sv =>
    obtain ⟨e1, e2⟩ := seen_old HQ.out (by show (seenF (zs.take k) q1.hour).isSome = true; rw [hs]; rfl)
    have hsv : sv = .bool true := by
     unfold seenF at hs; rw [Option.map_eq_some_iff] at hs; obtain ⟨_, _, e⟩ := hs; exact e.symm
    rw [hs, hsv, Option.getD_some] at hlk; have HE1 := hD e1; have HE2 := hD e2; clear hs hsv e1 e2; go_wp2_with fail; go_roundw
    case rel => exact ⟨k + 1, by omega, by go_num, by rw [HE1.out]; exact HA.out.seen.mono (by omega), by rw [HE2.out]; exact HA.out.hours.mono (by omega), HA.out.below⟩
    case measure => simp [Go.RowKit.intOf]; omega
   | none =>
    obtain ⟨e1, e2, e3⟩ := seen_new HQ.out hs; have HE1 := hD e1; have HE2 := hD e2; have HE3 := hD e3; rw [hs, Option.getD_none] at hlk; clear hs e1 e2 e3; go_upto_region 7 with fail; clear hlk; obtain ⟨w3, hup, hA3⟩ := i64_put HA.out HIH.out (by unfold maxLen; omega) (by omega) hE1 (by omega); dsimp only at hup; have HA3 := hD hA3; clear hA3 HA; go_upto_region 8 with fail; clear hup c0; have c0 := rowN HA3.out.row 0 (.int .i64 q1.hour) rfl; have c1 := rowN HA3.out.row 1 (.slice an q1.net.length nc) rfl; have HG : Hid (w3.rangeAt bE 2 [.int .i64 q1.mouth.lo, .int .i64 q1.mouth.hi]) := hD (range2 (rowN HA3.out.row 2 _ rfl) (rowN HA3.out.row 3 _ rfl)); go_cut [7] (fun s7 wx => s7 = .bool (decide (q1.net.length = 3) && rightSp q1.mouth) ∧ BY w zs bE w.heap.size (w.heap.size + 1) (2 * k + 1) (fun s => if s = q1.hour then some (.bool true) else seenF (zs.take k) s) (hoursV (zs.take k)) (q1, .slice an q1.net.length nc) wx)
    case first =>
     cases hn3 : decide (q1.net.length = 3) with
     | true =>
      have t1 : ((q1.net.length : Int) == 3) = true := by rw [beq_iff_eq]; have := of_decide_eq_true hn3; omega
      have t2 : decide ((q1.net.length : Int) = 3) = true := decide_eq_true (by have := of_decide_eq_true hn3; omega); go_wp2_with (first | (refine lRG HG.out undSp infoSp ?_)); refine (rightSp_any q1.mouth _).mono ?_; rintro e w4 ⟨rfl, hb4⟩; have HA4 := hD (HA3.out.step hb4); clear hb4; go_wp2_with fail; go_meet; exact ⟨by rw [hn3, Bool.true_and], HA4.out⟩
     | false =>
      have t1 : ((q1.net.length : Int) == 3) = false := by rw [beq_eq_false_iff_ne]; have := of_decide_eq_false hn3; omega
      have t2 : decide ((q1.net.length : Int) = 3) = false := decide_eq_false (by have := of_decide_eq_false hn3; omega); go_wp2_with fail; go_meet; exact ⟨by rw [hn3, Bool.false_and], HA3.out⟩
    obtain ⟨rfl, hA4⟩ := hcut; have HA4 := hD hA4; clear hA4 HA3 c0 c1 HG; have c1 := rowN HA4.out.row 1 (.slice an q1.net.length nc) rfl; go_wp2_with fail; obtain ⟨b0, hb0⟩ : ∃ b0, b0 = (decide (q1.net.length = 3) && rightSp q1.mouth) := ⟨_, rfl⟩; rw [← hb0]; have HB0 := hD hb0; clear hb0; go_loopw [7, 37] (fun ov iv wx => ∃ j : Nat, j ≤ q1.net.length ∧ iv = .int .i64 j ∧ ov = .bool (b0 && (q1.net.take j).all rightSp) ∧ BY w zs bE w.heap.size (w.heap.size + 1) (2 * k + 1) (fun s => if s = q1.hour then some (.bool true) else seenF (zs.take k) s) (hoursV (zs.take k)) (q1, .slice an q1.net.length nc) wx) (fun _ iv _ => q1.net.length - (Go.RowKit.intOf iv).toNat)
    case atStart => exact ⟨0, Nat.zero_le _, rfl, by rw [List.take_zero, List.all_nil, Bool.and_true], HA4.out⟩
    case round =>
     obtain ⟨j, hj, rfl, rfl, hA5⟩ := hrel; have HA5 := hD hA5; clear hA5 HA4 c1; by_cases hlj : j < q1.net.length
     ·
      obtain ⟨s, hs⟩ : ∃ s, q1.net[j]? = some s := ⟨_, List.getElem?_eq_getElem hlj⟩; obtain ⟨bn, on, cs, rfl, hbn, -, hrn, rfl, -⟩ := HN.out.at hs; have HRN := hD (rangeAt_below hrn HA5.out.below hbn); have HSN := hD (all_snoc (P := rightSp) hs); clear hs hrn; have ha : Below wr.heap.size wr (wr.alloc (.cells #[s.lo, s.hi] 53)) := (Below.refl _ _).alloc (Nat.le_refl _) _; have HA6 := hD (HA5.out.step ha); have HR6 := hD (heap_alloc_new wr (.cells #[s.lo, s.hi] 53)); clear ha HA5; go_upto_region 12 with (refine lRG HRN.out undSp infoSp ?_); clear HRN; generalize wr.alloc (.cells #[s.lo, s.hi] 53) = w5 at *; generalize wr.heap.size = bS at *; obtain ⟨b1, hb1⟩ : ∃ b1, b1 = (b0 && (q1.net.take j).all rightSp) := ⟨_, rfl⟩; rw [← hb1]; have HB1 : Hid ((b0 && (q1.net.take (j + 1)).all rightSp) = (b1 && rightSp s)) := hD (by rw [HSN.out, hb1, Bool.and_assoc]); clear hb1 HSN
      cases b1 with
      | true =>
       go_wp2_with (first | (refine lRW HR6.out undSp infoSp ?_)); refine (rightSp_any s _).mono ?_; rintro e w6 ⟨rfl, hb6⟩; have HA7 := hD (HA6.out.step hb6); clear hb6 HA6 HR6; go_wp2_with fail; go_roundw
       case rel => exact ⟨j + 1, by omega, by go_num, by rw [HB1.out, Bool.true_and], HA7.out⟩
       case measure => simp [Go.RowKit.intOf]; omega
      | false =>
       go_wp2_with fail; go_roundw
       case rel => exact ⟨j + 1, by omega, by go_num, by rw [HB1.out, Bool.false_and], HA6.out⟩
       case measure => simp [Go.RowKit.intOf]; omega
     ·
      obtain rfl : j = q1.net.length := by omega
      rw [List.take_length]; have HRP : Hid (rightPb q1 = (b0 && q1.net.all rightSp)) := hD (by rw [HB0.out]; rfl); rw [← HRP.out]; clear hlj hj
      cases hr : rightPb q1 with
      | true =>
       have HE2' := hD (HE2.out hr); obtain ⟨w6, hup, hA6⟩ := pub_put HA5.out HIH.out HQM.out (by unfold maxLen; omega) (by omega) hE2 (by omega); unfold pbV at hup; dsimp only at hup; have HA6 := hD hA6; have c0 := rowN HA5.out.row 0 (.int .i64 q1.hour) rfl; clear hA6 hr HE2 HE3; go_wp2_with (first | (refine lRW HA5.out.row undPb infoPb ?_)); go_roundw
       case rel => exact ⟨k + 1, by omega, by go_num, by rw [HE1.out]; exact HA6.out.seen.mono (by omega), by rw [HE2'.out]; exact HA6.out.hours.mono (by omega), HA6.out.below⟩
       case measure => simp [Go.RowKit.intOf]; omega
      | false =>
       have HE3' := hD (HE3.out hr); clear hr HE2 HE3; go_wp2_with fail; go_roundw
       case rel => exact ⟨k + 1, by omega, by go_num, by rw [HE1.out]; exact HA5.out.seen.mono (by omega), by rw [HE3'.out]; exact HA5.out.hours.mono (by omega), HA5.out.below⟩
       case measure => simp [Go.RowKit.intOf]; omega
  ·
   obtain rfl : k = zs.length := by omega
   rw [List.take_length] at HSE HHO
   have HH : Hid (HoursAt (w.heap.size + 1) pubs wr) := hD ⟨_, _, _, HHO.out, fun t => by
    have := hours_made HZS.out t
    cases e : hoursF pubs t with
    | none => rw [e] at this; exact this
    | some p =>
     rw [e] at this; obtain ⟨q, h1, rfl, h2⟩ := this; obtain ⟨j, hj⟩ := List.getElem?_of_mem h1; obtain ⟨_, _, _, _, _, _, _, h3⟩ := HZ.out j q hj
     exact ⟨q.2, h2, h3.below stays_Span HBE.out⟩⟩
   clear HSE HHO hlt hk; go_wp2_with fail; go_ret; exact ⟨_, rfl, HH.out, HBE.out⟩
end Go.Proofs.YtjbjpkhibcnenaaGreatDoor

