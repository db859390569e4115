/- Texts merged: AForkL AByHour -/
import Derived.Test.YtjbjpkhibcnenaaGreatDoorAHours
import Derived.Deep.DeepCutAuto
/- audit.Find: the plain law of fork. -/
namespace Go.Proofs.YtjbjpkhibcnenaaGreatDoor
def firstF (L : List CV) (h : Int) : Option CV := L.find? (fun c => decide (c.hour = h))
def splitF (L : List CV) (h : Int) : Option CV :=
  match firstF L h with
  | some f => L.find? (fun c => decide (c.hour = h) && decide (c ≠ f))
  | none => none
def forkF (L : List CV) : Option (CV × CV) := L.findSome? (fun c => (splitF L c.hour).map fun d => (c, d))
theorem firstF_new {L : List CV} {k : Nat} {c : CV} (hc : L[k]? = some c) (h : firstF (L.take k) c.hour = none) :
    (firstF (L.take (k + 1)) = fun s => if s = c.hour then some c else firstF (L.take k) s) ∧ splitF (L.take (k + 1)) = splitF (L.take k) := by
  have h1 : firstF (L.take (k + 1)) = fun s => if s = c.hour then some c else firstF (L.take k) s := by
    funext s
    unfold firstF at h ⊢
    rw [find_snoc hc]
    by_cases e : s = c.hour
    · subst e
      rw [h]
      simp
    · rw [if_neg e]
      cases (L.take k).find? (fun c => decide (c.hour = s)) with
      | some y => rfl
      | none => simp [show ¬ c.hour = s from fun e2 => e e2.symm]
  refine ⟨h1, ?_⟩
  funext s
  unfold splitF
  rw [h1]
  dsimp only
  by_cases e : s = c.hour
  · subst e
    rw [if_pos rfl, h]
    simp only
    rw [find_snoc hc]
    have : (L.take k).find? (fun d => decide (d.hour = c.hour) && decide (d ≠ c)) = none := by
      rw [List.find?_eq_none]
      intro d hd hh
      unfold firstF at h
      rw [List.find?_eq_none] at h
      exact h d hd (by simp at hh; simp [hh.1])
    rw [this]
    simp
  · rw [if_neg e]
    cases firstF (L.take k) s with
    | none => rfl
    | some f =>
      simp only
      rw [find_snoc hc]
      cases (L.take k).find? (fun d => decide (d.hour = s) && decide (d ≠ f)) with
      | some y => rfl
      | none => simp [show ¬ c.hour = s from fun e2 => e e2.symm]
theorem firstF_old {L : List CV} {k : Nat} {c f : CV} (hc : L[k]? = some c) (h : firstF (L.take k) c.hour = some f) :
    firstF (L.take (k + 1)) = firstF (L.take k) ∧
    ((splitF (L.take k) c.hour = none ∧ c ≠ f) → splitF (L.take (k + 1)) = fun s => if s = c.hour then some c else splitF (L.take k) s) ∧
    (¬ (splitF (L.take k) c.hour = none ∧ c ≠ f) → splitF (L.take (k + 1)) = splitF (L.take k)) := by
  have h1 : firstF (L.take (k + 1)) = firstF (L.take k) := by
    funext s
    by_cases e : s = c.hour
    · subst e
      rw [h]
      unfold firstF at h ⊢
      rw [find_snoc hc, h]
    · unfold firstF
      rw [find_snoc hc]
      cases (L.take k).find? (fun c => decide (c.hour = s)) with
      | some y => rfl
      | none => simp [show ¬ c.hour = s from fun e2 => e e2.symm]
  have h2 : ∀ s, s ≠ c.hour → splitF (L.take (k + 1)) s = splitF (L.take k) s := fun s e => by
    unfold splitF
    rw [h1]
    cases firstF (L.take k) s with
    | none => rfl
    | some g =>
      simp only
      rw [find_snoc hc]
      cases (L.take k).find? (fun d => decide (d.hour = s) && decide (d ≠ g)) with
      | some y => rfl
      | none => simp [show ¬ c.hour = s from fun e2 => e e2.symm]
  have h3 : splitF (L.take (k + 1)) c.hour = match splitF (L.take k) c.hour with | some y => some y | none => if c ≠ f then some c else none := by
    unfold splitF
    rw [h1, h]
    simp only
    rw [find_snoc hc]
    cases (L.take k).find? (fun d => decide (d.hour = c.hour) && decide (d ≠ f)) with
    | some y => rfl
    | none => simp
  refine ⟨h1, fun ⟨e1, e2⟩ => ?_, fun hn => ?_⟩
  · funext s
    by_cases e : s = c.hour
    · subst e
      rw [if_pos rfl, h3, e1]
      simp [e2]
    · rw [if_neg e, h2 s e]
  · funext s
    by_cases e : s = c.hour
    · subst e
      rw [h3]
      cases hs : splitF (L.take k) c.hour with
      | some y => rfl
      | none =>
        have : c = f := Classical.byContradiction (fun e2 => hn ⟨hs, e2⟩)
        simp [this]
    · exact h2 s e
/-- an hour is split if and only if one of its claims has another one beside it -/
theorem splitF_none {L : List CV} {c : CV} (hc : c ∈ L) : splitF L c.hour = none ↔ ∀ d ∈ L, forkB c d = false := by
  cases hf : firstF L c.hour with
  | none =>
    unfold firstF at hf
    rw [List.find?_eq_none] at hf
    exact absurd (hf c hc) (by simp)
  | some f =>
    have hfm := List.mem_of_find?_eq_some hf
    have hfh : f.hour = c.hour := by have := List.find?_some hf; simpa using this
    unfold splitF
    rw [hf]
    simp only
    rw [List.find?_eq_none]
    constructor
    · intro h d hd
      have e1 : c = f := Classical.byContradiction (fun e => h c hc (by simp [e]))
      unfold forkB
      by_cases e : c.hour = d.hour
      · have e2 : d = f := Classical.byContradiction (fun e3 => h d hd (by simp [e, e3]))
        simp [e1, e2]
      · simp [e]
    · intro h d hd hh
      simp only [Bool.and_eq_true, decide_eq_true_eq] at hh
      have g1 := h f hfm
      have g2 := h d hd
      unfold forkB at g1 g2
      have e1 : c = f := Classical.byContradiction (fun e => by simp [hfh, e] at g1)
      have e2 : c = d := Classical.byContradiction (fun e => by simp [hh.1, e] at g2)
      exact hh.2 (e2.symm.trans e1)
theorem forkF_is (L : List CV) : forkF L = first2 forkB L L := by
  have key : ∀ (l1 l2 : List CV), L = l1 ++ l2 → (∀ c ∈ l1, ∀ d ∈ L, forkB c d = false) → l2.findSome? (fun c => (splitF L c.hour).map fun d => (c, d)) = l2.findSome? (fun c => (L.find? (forkB c)).map fun d => (c, d)) := by
    intro l1 l2
    induction l2 generalizing l1 with
    | nil => intro _ _; rfl
    | cons c l2 ih =>
      intro hL hno
      have hcm : c ∈ L := by rw [hL]; simp
      rw [List.findSome?_cons, List.findSome?_cons]
      cases hs : splitF L c.hour with
      | none =>
        have hn := (splitF_none hcm).1 hs
        have : L.find? (forkB c) = none := by
          rw [List.find?_eq_none]
          intro d hd
          rw [hn d hd]
          decide
        rw [this]
        simp only [Option.map_none]
        exact ih (l1 ++ [c]) (by rw [hL]; simp) (fun x hx d hd => by
          rcases List.mem_append.1 hx with hx | hx
          · exact hno x hx d hd
          · have : x = c := by simpa using hx
            rw [this]; exact hn d hd)
      | some d =>
        have hf : firstF L c.hour = some c := by
          cases hg : firstF L c.hour with
          | none =>
            unfold splitF at hs
            rw [hg] at hs
            cases hs
          | some f =>
            have hfh : f.hour = c.hour := by have := List.find?_some hg; simpa using this
            have hfm := List.mem_of_find?_eq_some hg
            by_cases e : f = c
            · rw [e]
            · exfalso
              -- f would stand ahead of c
              unfold firstF at hg
              rw [hL, List.find?_append] at hg
              cases h1 : l1.find? (fun x => decide (x.hour = c.hour)) with
              | some g =>
                rw [h1] at hg
                have : g = f := by simpa using hg
                subst this
                have := hno g (List.mem_of_find?_eq_some h1) c hcm
                unfold forkB at this
                simp [hfh, e] at this
              | none =>
                rw [h1, List.find?_cons_of_pos (by simp)] at hg
                exact e (by simpa using hg.symm)
        unfold splitF at hs
        rw [hf] at hs
        simp only at hs
        have : L.find? (forkB c) = some d := by
          rw [← hs]
          congr 1
          funext x
          unfold forkB
          by_cases e1 : c.hour = x.hour
          · by_cases e2 : c = x
            · simp [e2]
            · simp [e1, e2, show ¬ x = c from fun h => e2 h.symm]
          · simp [e1, show ¬ x.hour = c.hour from fun h => e1 h.symm]
        rw [this]
        rfl
  exact key [] L rfl (fun c hc => by simp at hc)
end Go.Proofs.YtjbjpkhibcnenaaGreatDoor
/- audit.byHour: the walk. -/
namespace Go.Proofs.YtjbjpkhibcnenaaGreatDoor
open Go.RowKit
theorem all_snoc {α : Type} {P : α → Bool} {l : List α} {j : Nat} {x : α} (h : l[j]? = some x) : (l.take (j + 1)).all P = ((l.take j).all P && P x) := by
  rw [List.take_add_one, h]
  simp
theorem i64_put {w c : World} {zs : List QV} {bE sb mb n : Nat} {fs fh : Int → Option Value} {q : QV} (h : BY w zs bE sb mb n fs fh q c) (hq : I64 q.1.hour) (hn : n < maxLen) (hne : sb ≠ mb) (hE : bE ≠ sb) (hw : w.heap.size ≤ sb) :
    ∃ c', (Instr.mapUpdate 122 (.map (some sb)) (.int .i64 q.1.hour) (.bool true)).run Tryz.prog c = .ok () c' ∧ BY w zs bE sb mb (n + 1) (fun s => if s = q.1.hour then some (.bool true) else fs s) fh q c' := by
  obtain ⟨c', h1, h2, h3⟩ := h.seen.put undMB hq (v := .bool true) (Or.inr (by simp)) hn
  refine ⟨c', h1, ⟨(h3.block bE (blk_lt h.row) (by simp [hE])).trans h.row, h2, (h.hours.keep (h3.block mb h.hours.lt (by simp [hne.symm]))).mono (Nat.le_succ _), h.below.grown h3 h.below.size (fun k e => by cases e; exact hw)⟩⟩
theorem pub_put {w c : World} {zs : List QV} {bE sb mb n : Nat} {fs fh : Int → Option Value} {q : QV} (h : BY w zs bE sb mb n fs fh q c) (hq : I64 q.1.hour) (hm : q ∈ zs) (hn : n < maxLen) (hne : sb ≠ mb) (hE : bE ≠ mb) (hw : w.heap.size ≤ mb) :
    ∃ c', (Instr.mapUpdate 90 (.map (some mb)) (.int .i64 q.1.hour) (pbV q)).run Tryz.prog c = .ok () c' ∧ BY w zs bE sb mb (n + 1) fs (fun s => if s = q.1.hour then some (pbV q) else fh s) q c' := by
  obtain ⟨c', h1, h2, h3⟩ := h.hours.put undMP hq (v := pbV q) (Or.inr (List.mem_map.2 ⟨q, hm, rfl⟩)) hn
  refine ⟨c', h1, ⟨(h3.block bE (blk_lt h.row) (by simp [hE])).trans h.row, (h.seen.keep (h3.block sb h.seen.lt (by simp [hne]))).mono (Nat.le_succ _), h2, h.below.grown h3 h.below.size (fun k e => by cases e; exact hw)⟩⟩
set_option maxRecDepth 100000 in
set_option maxHeartbeats 4000000 in
theorem byHour_any (pubs : List PublicV) (v : Value) (w : World) (h : LArg RPublic 4 v pubs w) (hl : pubs.length ≤ 1000) :
    Calls Tryz.prog 44 #[v] w fun e w' => ∃ mb, e = .returned (.map (some mb)) ∧ HoursAt mb pubs w' ∧ Below w.heap.size w w' := by
  have hmm := @run_makeMap Tryz.prog
  obtain ⟨al, lc, rfl, hlc, hlm⟩ := h.slice
  obtain ⟨zs, hzs, hz⟩ := qs_of h
  have hzl : pubs.length = zs.length := by rw [← hzs, List.length_map]
  have HZ := Lib.hid hz
  have HZS := Lib.hid hzs
  rw [hzl] at hl ⊢
  clear h hz hzs hlc hlm hzl
  go_enter Tryz.func44, Tryz.ntmps44
  go_upto_region 3 with fail
  clear hmm
  have s1 : (w.alloc (.map #[] 0)).heap.size = w.heap.size + 1 := by simp
  have HS0 : Hid (MapF (.bool false) [.bool true] ((w.alloc (.map #[] 0)).alloc (.map #[] 0)) w.heap.size 0 (fun _ => none)) := Lib.hid ((MapF.made _ _ w).below ((Below.refl _ _).alloc (Nat.le_refl _) _))
  have HM0 : Hid (MapF zPb (zs.map pbV) ((w.alloc (.map #[] 0)).alloc (.map #[] 0)) (w.heap.size + 1) 0 (fun _ => none)) := Lib.hid (by
    have := MapF.made zPb (zs.map pbV) (w.alloc (.map #[] 0))
    rw [s1] at this
    exact this)
  have HB0 : Hid (Below w.heap.size w ((w.alloc (.map #[] 0)).alloc (.map #[] 0))) := Lib.hid (((Below.refl _ _).alloc (Nat.le_refl _) _).alloc (by rw [s1]; omega) _)
  clear s1
  generalize (w.alloc (.map #[] 0)).alloc (.map #[] 0) = w0 at *
  go_wp2_with fail
  go_loopw [14] (fun iv wr => ∃ k : Nat, k ≤ zs.length ∧ iv = .int .i64 k ∧ MapF (.bool false) [.bool true] wr w.heap.size (2 * k) (seenF (zs.take k)) ∧ MapF zPb (zs.map pbV) wr (w.heap.size + 1) (2 * k) (hoursV (zs.take k)) ∧ Below w.heap.size w wr) (fun iv _ => zs.length - (Go.RowKit.intOf iv).toNat)
  case atStart => exact ⟨0, Nat.zero_le _, rfl, HS0.out, HM0.out, HB0.out⟩
  case round =>
    obtain ⟨k, hk, rfl, hse, hho, hbe⟩ := hrel
    have HSE := Lib.hid hse
    have HHO := Lib.hid hho
    have HBE := Lib.hid hbe
    clear hse hho hbe HS0 HM0 HB0
    by_cases hlt : k < zs.length
    · obtain ⟨q, hq⟩ : ∃ q, zs[k]? = some q := ⟨_, List.getElem?_eq_getElem hlt⟩
      obtain ⟨b, o, rfl, hb, hrg, hI, hM, hN⟩ := HZ.out k q hq
      have hqm := List.mem_of_getElem? hq
      have HQ := Lib.hid hq
      have HQM := Lib.hid hqm
      have HRG := Lib.hid (rangeAt_below hrg HBE.out hb)
      have HIH := Lib.hid hI
      have HMM := Lib.hid hM
      have HN := Lib.hid hN
      obtain ⟨an, nc, hq2, hnl, hnm⟩ := HN.out.slice
      obtain ⟨q1, q2⟩ := q
      dsimp only at hq2 hnl
      subst hq2
      have hnl2 : q1.net.length ≤ 9223372036854775807 := by unfold maxLen at hnm; omega
      clear hq hqm hrg hI hM hN hnl hnm
      have ha : Below wr.heap.size wr (wr.alloc (.cells #[.int .i64 q1.hour, .slice an q1.net.length nc, .int .i64 q1.mouth.lo, .int .i64 q1.mouth.hi] 55)) := (Below.refl _ _).alloc (Nat.le_refl _) (.cells #[.int .i64 q1.hour, .slice an q1.net.length nc, .int .i64 q1.mouth.lo, .int .i64 q1.mouth.hi] 55)
      have HA : Hid (BY w zs wr.heap.size w.heap.size (w.heap.size + 1) (2 * k) (seenF (zs.take k)) (hoursV (zs.take k)) (q1, .slice an q1.net.length nc) (wr.alloc (.cells #[.int .i64 q1.hour, .slice an q1.net.length nc, .int .i64 q1.mouth.lo, .int .i64 q1.mouth.hi] 55))) := Lib.hid ⟨heap_alloc_new wr (.cells #[.int .i64 q1.hour, .slice an q1.net.length nc, .int .i64 q1.mouth.lo, .int .i64 q1.mouth.hi] 55), HSE.out.below ha, HHO.out.below ha, HBE.out.trans (ha.mono HBE.out.size)⟩
      have hE1 : wr.heap.size ≠ w.heap.size := (Nat.ne_of_lt HSE.out.lt).symm
      have hE2 : wr.heap.size ≠ w.heap.size + 1 := (Nat.ne_of_lt HHO.out.lt).symm
      have hE3 : w.heap.size ≤ wr.heap.size := HBE.out.size
      clear ha HSE HHO HBE
      go_upto_region 6 with (refine wpList_load_range (by first | (go_simp; done) | rfl) 55 _ rfl _ _ rfl _ _ HRG.out undPb rfl infoPb ?_)
      clear HRG
      generalize wr.alloc (.cells #[.int .i64 q1.hour, .slice an q1.net.length nc, .int .i64 q1.mouth.lo, .int .i64 q1.mouth.hi] 55) = w2 at *
      generalize wr.heap.size = bE at *
      have hlk := HA.out.seen.look undMB (zeroB w2) HIH.out
      have c0 := rowN HA.out.row 0 (.int .i64 q1.hour) rfl
      dsimp only at hlk
      cases hs : seenF (zs.take k) q1.hour with
      | some sv =>
        obtain ⟨e1, e2⟩ := seen_old HQ.out (by show (seenF (zs.take k) q1.hour).isSome = true; rw [hs]; rfl)
        have hsv : sv = .bool true := by
          unfold seenF at hs
          rw [Option.map_eq_some_iff] at hs
          obtain ⟨_, _, e⟩ := hs
          exact e.symm
        rw [hs, hsv, Option.getD_some] at hlk
        have HE1 := Lib.hid e1
        have HE2 := Lib.hid e2
        clear hs hsv e1 e2
        go_wp2_with fail
        go_roundw
        case rel => exact ⟨k + 1, by omega, by go_num, by rw [HE1.out]; exact HA.out.seen.mono (by omega), by rw [HE2.out]; exact HA.out.hours.mono (by omega), HA.out.below⟩
        case measure => simp [Go.RowKit.intOf]; omega
      | none =>
        obtain ⟨e1, e2, e3⟩ := seen_new HQ.out hs
        have HE1 := Lib.hid e1
        have HE2 := Lib.hid e2
        have HE3 := Lib.hid e3
        rw [hs, Option.getD_none] at hlk
        clear hs e1 e2 e3
        go_upto_region 7 with fail
        clear hlk
        obtain ⟨w3, hup, hA3⟩ := i64_put HA.out HIH.out (by unfold maxLen; omega) (by omega) hE1 (by omega)
        dsimp only at hup
        have HA3 := Lib.hid hA3
        clear hA3 HA
        go_upto_region 8 with fail
        clear hup c0
        have c0 := rowN HA3.out.row 0 (.int .i64 q1.hour) rfl
        have c1 := rowN HA3.out.row 1 (.slice an q1.net.length nc) rfl
        have HG : Hid (w3.rangeAt bE 2 [.int .i64 q1.mouth.lo, .int .i64 q1.mouth.hi]) := Lib.hid (range2 (rowN HA3.out.row 2 _ rfl) (rowN HA3.out.row 3 _ rfl))
        go_cut [7] (fun s7 wx => s7 = .bool (decide (q1.net.length = 3) && rightSp q1.mouth) ∧ BY w zs bE w.heap.size (w.heap.size + 1) (2 * k + 1) (fun s => if s = q1.hour then some (.bool true) else seenF (zs.take k) s) (hoursV (zs.take k)) (q1, .slice an q1.net.length nc) wx)
        case first =>
          cases hn3 : decide (q1.net.length = 3) with
          | true =>
            have t1 : ((q1.net.length : Int) == 3) = true := by rw [beq_iff_eq]; have := of_decide_eq_true hn3; omega
            have t2 : decide ((q1.net.length : Int) = 3) = true := decide_eq_true (by have := of_decide_eq_true hn3; omega)
            go_wp2_with (first | (refine wpList_load_range (by first | (go_simp; done) | rfl) 53 _ rfl _ _ rfl _ _ HG.out undSp rfl infoSp ?_))
            refine (rightSp_any q1.mouth _).mono ?_
            rintro e w4 ⟨rfl, hb4⟩
            have HA4 := Lib.hid (HA3.out.step hb4)
            clear hb4
            go_wp2_with fail
            go_meet
            exact ⟨by rw [hn3, Bool.true_and], HA4.out⟩
          | false =>
            have t1 : ((q1.net.length : Int) == 3) = false := by rw [beq_eq_false_iff_ne]; have := of_decide_eq_false hn3; omega
            have t2 : decide ((q1.net.length : Int) = 3) = false := decide_eq_false (by have := of_decide_eq_false hn3; omega)
            go_wp2_with fail
            go_meet
            exact ⟨by rw [hn3, Bool.false_and], HA3.out⟩
        obtain ⟨rfl, hA4⟩ := hcut
        have HA4 := Lib.hid hA4
        clear hA4 HA3 c0 c1 HG
        have c1 := rowN HA4.out.row 1 (.slice an q1.net.length nc) rfl
        go_wp2_with fail
        obtain ⟨b0, hb0⟩ : ∃ b0, b0 = (decide (q1.net.length = 3) && rightSp q1.mouth) := ⟨_, rfl⟩
        rw [← hb0]
        have HB0 := Lib.hid hb0
        clear hb0
        go_loopw [7, 37] (fun ov iv wx => ∃ j : Nat, j ≤ q1.net.length ∧ iv = .int .i64 j ∧ ov = .bool (b0 && (q1.net.take j).all rightSp) ∧ BY w zs bE w.heap.size (w.heap.size + 1) (2 * k + 1) (fun s => if s = q1.hour then some (.bool true) else seenF (zs.take k) s) (hoursV (zs.take k)) (q1, .slice an q1.net.length nc) wx) (fun _ iv _ => q1.net.length - (Go.RowKit.intOf iv).toNat)
        case atStart => exact ⟨0, Nat.zero_le _, rfl, by rw [List.take_zero, List.all_nil, Bool.and_true], HA4.out⟩
        case round =>
          obtain ⟨j, hj, rfl, rfl, hA5⟩ := hrel
          have HA5 := Lib.hid hA5
          clear hA5 HA4 c1
          by_cases hlj : j < q1.net.length
          · obtain ⟨s, hs⟩ : ∃ s, q1.net[j]? = some s := ⟨_, List.getElem?_eq_getElem hlj⟩
            obtain ⟨bn, on, cs, rfl, hbn, -, hrn, rfl, -⟩ := HN.out.at hs
            have HRN := Lib.hid (rangeAt_below hrn HA5.out.below hbn)
            have HSN := Lib.hid (all_snoc (P := rightSp) hs)
            clear hs hrn
            have ha : Below wr.heap.size wr (wr.alloc (.cells #[.int .i64 s.lo, .int .i64 s.hi] 53)) := (Below.refl _ _).alloc (Nat.le_refl _) _
            have HA6 := Lib.hid (HA5.out.step ha)
            have HR6 := Lib.hid (heap_alloc_new wr (.cells #[.int .i64 s.lo, .int .i64 s.hi] 53))
            clear ha HA5
            go_upto_region 12 with (refine wpList_load_range (by first | (go_simp; done) | rfl) 53 _ rfl _ _ rfl _ _ HRN.out undSp rfl infoSp ?_)
            clear HRN
            generalize wr.alloc (.cells #[.int .i64 s.lo, .int .i64 s.hi] 53) = w5 at *
            generalize wr.heap.size = bS at *
            obtain ⟨b1, hb1⟩ : ∃ b1, b1 = (b0 && (q1.net.take j).all rightSp) := ⟨_, rfl⟩
            rw [← hb1]
            have HB1 : Hid ((b0 && (q1.net.take (j + 1)).all rightSp) = (b1 && rightSp s)) := Lib.hid (by rw [HSN.out, hb1, Bool.and_assoc])
            clear hb1 HSN
            cases b1 with
            | true =>
              go_wp2_with (first | (refine wpList_load_rowW (by first | (go_simp; done) | rfl) 53 _ rfl _ rfl 53 _ _ _ HR6.out undSp rfl infoSp ?_))
              refine (rightSp_any s _).mono ?_
              rintro e w6 ⟨rfl, hb6⟩
              have HA7 := Lib.hid (HA6.out.step hb6)
              clear hb6 HA6 HR6
              go_wp2_with fail
              go_roundw
              case rel => exact ⟨j + 1, by omega, by go_num, by rw [HB1.out, Bool.true_and], HA7.out⟩
              case measure => simp [Go.RowKit.intOf]; omega
            | false =>
              go_wp2_with fail
              go_roundw
              case rel => exact ⟨j + 1, by omega, by go_num, by rw [HB1.out, Bool.false_and], HA6.out⟩
              case measure => simp [Go.RowKit.intOf]; omega
          · obtain rfl : j = q1.net.length := by omega
            rw [List.take_length]
            have HRP : Hid (rightPb q1 = (b0 && q1.net.all rightSp)) := Lib.hid (by rw [HB0.out]; rfl)
            rw [← HRP.out]
            clear hlj hj
            cases hr : rightPb q1 with
            | true =>
              have HE2' := Lib.hid (HE2.out hr)
              obtain ⟨w6, hup, hA6⟩ := pub_put HA5.out HIH.out HQM.out (by unfold maxLen; omega) (by omega) hE2 (by omega)
              unfold pbV at hup
              dsimp only at hup
              have HA6 := Lib.hid hA6
              have c0 := rowN HA5.out.row 0 (.int .i64 q1.hour) rfl
              clear hA6 hr HE2 HE3
              go_wp2_with (first | (refine wpList_load_rowW (by first | (go_simp; done) | rfl) 55 _ rfl _ rfl 55 _ _ _ HA5.out.row undPb rfl infoPb ?_))
              go_roundw
              case rel => exact ⟨k + 1, by omega, by go_num, by rw [HE1.out]; exact HA6.out.seen.mono (by omega), by rw [HE2'.out]; exact HA6.out.hours.mono (by omega), HA6.out.below⟩
              case measure => simp [Go.RowKit.intOf]; omega
            | false =>
              have HE3' := Lib.hid (HE3.out hr)
              clear hr HE2 HE3
              go_wp2_with fail
              go_roundw
              case rel => exact ⟨k + 1, by omega, by go_num, by rw [HE1.out]; exact HA5.out.seen.mono (by omega), by rw [HE3'.out]; exact HA5.out.hours.mono (by omega), HA5.out.below⟩
              case measure => simp [Go.RowKit.intOf]; omega
    · obtain rfl : k = zs.length := by omega
      rw [List.take_length] at HSE HHO
      have HH : Hid (HoursAt (w.heap.size + 1) pubs wr) := Lib.hid ⟨_, _, _, HHO.out, fun t => by
        have := hours_made HZS.out t
        cases e : hoursF pubs t with
        | none => rw [e] at this; exact this
        | some p =>
          rw [e] at this
          obtain ⟨q, h1, rfl, h2⟩ := this
          obtain ⟨j, hj⟩ := List.getElem?_of_mem h1
          obtain ⟨_, _, _, _, _, _, _, h3⟩ := HZ.out j q hj
          exact ⟨q.2, h2, h3.below stays_Span HBE.out⟩⟩
      clear HSE HHO hlt hk
      go_wp2_with fail
      go_ret
      exact ⟨_, rfl, HH.out, HBE.out⟩
end Go.Proofs.YtjbjpkhibcnenaaGreatDoor
