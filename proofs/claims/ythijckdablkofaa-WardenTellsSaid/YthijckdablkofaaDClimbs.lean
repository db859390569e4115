/- bournelaw44.WardenClimbs returns true for all numbers of wardens, steps, towns, levels, hours, wardens and delays. -/
import Derived.Test.YthijckdablkofaaDAcks
import Derived.Deep.DeepCutAuto
namespace Go.Proofs.Ythijckdablkofaa
open Go.RowKit
theorem raise_no {s : WS} {t l h : Int} (hb : ¬ okRaise t l h) : raiseS s t l h = (0, s) := if_neg hb
theorem raise_yes (s : WS) {t l h : Int} (hb : okRaise t l h) : (raiseS s t l h).1 = (s.r : Int) + 1 ∧ getM (raiseS s t l h).2.m t = some ⟨l, (s.r : Int) + 1, h, false⟩ := by
  unfold raiseS
  rw [if_pos hb]
  refine ⟨rfl, ?_⟩
  simp only
  rw [getM_put, if_pos rfl]
theorem ack_got {s : WS} {t l num h who : Int} (hg : getM s.m t = some ⟨l, num, h, false⟩) (h1 : 0 ≤ who) (h2 : who < s.n) : (ackS s ⟨t, 0, num, who⟩).1 = true ∧ getM (ackS s ⟨t, 0, num, who⟩).2.m t = some ⟨l, num, h, true⟩ := by
  have ha : awaitsS s ⟨t, 0, num, who⟩ = true := by
    unfold awaitsS
    simp only
    rw [hg]
    simp [awaitsO, h1, h2]
  unfold ackS
  rw [if_pos ha]
  refine ⟨rfl, ?_⟩
  simp only
  rw [hg]
  simp only [ackO]
  rw [getM_put, if_pos rfl]
/-- the calls of the town among the first k -/
def ofTown (L : List CV) (t : Int) (k : Nat) : Nat := ((L.take k).filter fun c => decide (c.town = t)).length
theorem ofTown_le (L : List CV) (t : Int) (k : Nat) : ofTown L t k ≤ k := Nat.le_trans (List.length_filter_le _ _) (List.length_take_le _ _)
theorem ofTown_skip {L : List CV} {t : Int} {k : Nat} {c : CV} (hc : L[k]? = some c) (h : ¬ c.town = t) : ofTown L t (k + 1) = ofTown L t k := by
  unfold ofTown
  rw [filter_skip hc (decide_eq_false h)]
theorem ofTown_next {L : List CV} {t : Int} {k : Nat} {c : CV} (hc : L[k]? = some c) (h : c.town = t) : ofTown L t (k + 1) = ofTown L t k + 1 ∧ (L.filter fun c => decide (c.town = t))[ofTown L t k]? = some c := by
  have h1 := filter_next (q := fun c : CV => decide (c.town = t)) hc (decide_eq_true h)
  refine ⟨?_, h1.1⟩
  unfold ofTown
  rw [h1.2, List.length_append]
  rfl
theorem call_is {s : WS} (hs : WOk s) {h t l num hr : Int} {dn : Bool} (hg : getM s.m t = some ⟨l, num, hr, dn⟩) {k : Nat} {c : CV} (hc : (dueS s h)[k]? = some c) (ht : c.town = t) : c = ⟨t, l, num, (ofTown (dueS s h) t k : Int)⟩ ∧ ofTown (dueS s h) t (k + 1) = ofTown (dueS s h) t k + 1 := by
  have h1 := ofTown_next hc ht
  refine ⟨?_, h1.1⟩
  have h2 := h1.2
  rw [due_town hs, hg] at h2
  simp only at h2
  split at h2
  · simp at h2
  · exact dueOne_get h2
theorem want_is {s : WS} (hs : WOk s) {h t l num hr : Int} {dn : Bool} (hg : getM s.m t = some ⟨l, num, hr, dn⟩) : (ofTown (dueS s h) t (dueS s h).length : Int) = if dn = false ∧ hr ≤ h then min (s.n : Int) (1 + (h - hr) / 3) else 0 := by
  unfold ofTown
  rw [List.take_length, due_town hs, hg]
  have h8 := hs.ok _ (get_mem hg)
  simp only at h8 ⊢
  cases dn with
  | true => simp
  | false =>
    simp only [Bool.false_eq_true, if_false, true_and]
    rw [dueOne_count _ _ _ h8.2.2.2.2.1]
set_option maxRecDepth 100000 in
set_option maxHeartbeats 16000000 in
theorem climbs_core (n : Int) (v : Value) (l : List SV) (town level hour who aft : Int) (W : World) (hn : I64 n) (hS : SArg v l W) (hlen : (l.length : Int) ≤ maxLen) (ht : I64 town) (hle : I64 level) (hh : I64 hour) (hw : I64 who) (haf : (Lit.int .u8 aft).wf = true) :
    Calls Try.prog 4 #[.int .i64 n, v, .int .i64 town, .int .i64 level, .int .i64 hour, .int .i64 who, .int .u8 aft] W fun e w' => e = .returned (.bool true) ∧ Below W.heap.size W w' := by
  unfold I64 at hn ht hle hh hw
  unfold maxLen at hlen
  have ha : 0 ≤ aft ∧ aft ≤ 255 := by simpa [Lit.wf, IntKind.min, IntKind.max, IntKind.signed, IntKind.bits] using haf
  clear haf
  have HS := Lib.hid hS
  obtain ⟨a, c, rfl⟩ := hS.slice
  clear hS
  by_cases hbad : n < 1 ∨ 16 < n
  · have HBad := Lib.hid hbad
    clear hbad
    go_enter Try.func4, Try.ntmps4
    go_wp2_with fail
    refine (small_any _).mono ?_
    rintro e w1 ⟨rfl, hb⟩
    have HB := Lib.hid hb
    clear hb
    go_wp2_with fail
    refine (new_none n HBad.out _).mono ?_
    rintro e w2 ⟨rfl, rfl⟩
    go_wp2_with fail
    go_ret
    exact ⟨rfl, HB.out⟩
  obtain ⟨m, rfl⟩ : ∃ m : Nat, n = m := ⟨n.toNat, by omega⟩
  have hm1 : 1 ≤ m := by omega
  have hm2 : m ≤ 16 := by omega
  clear hbad hn
  by_cases hl : 40 < l.length
  · go_enter Try.func4, Try.ntmps4
    go_wp2_with fail
    refine (small_any _).mono ?_
    rintro e w1 ⟨rfl, hb⟩
    have HB := Lib.hid hb
    clear hb
    go_wp2_with fail
    refine (new_any m hm1 hm2 _).mono ?_
    rintro e w2 ⟨rfl, _, hb⟩
    have HB2 := Lib.hid (HB.out.trans (hb.mono HB.out.size))
    clear hb
    go_wp2_with fail
    go_ret
    exact ⟨rfl, HB2.out⟩
  have hs0 := newS_ok hm1 hm2
  have hrun := run_ok l hs0
  have hr1 : (runS (newS m) l).r ≤ 40 := by have := hrun.2.1; have h0 : (newS m).r = 0 := rfl; omega
  have hn1 : (runS (newS m) l).n = m := hrun.2.2
  have HO := Lib.hid hrun.1
  have HN := Lib.hid hs0
  clear hrun hs0
  obtain ⟨s1, hs1⟩ : ∃ s1, s1 = runS (newS m) l := ⟨_, rfl⟩
  have HS1 := Lib.hid hs1
  rw [← hs1] at HO hr1 hn1
  clear hs1
  have hml := m_len HO.out
  by_cases k0 : town < 0
  · have HR := Lib.hid (raise_no (s := s1) (t := town) (l := level) (h := hour) (by unfold okRaise; omega))
    go_enter Try.func4, Try.ntmps4
    go_wp2_with fail
    refine (small_any _).mono ?_
    rintro e w1 ⟨rfl, hb⟩
    have HB := Lib.hid hb
    clear hb
    go_wp2_with fail
    refine (new_any m hm1 hm2 _).mono ?_
    rintro e w2 ⟨rfl, hP, hb⟩
    have HB2 := Lib.hid (HB.out.trans (hb.mono HB.out.size))
    have HP2 := Lib.hid hP
    have hWs : W.heap.size ≤ w1.heap.size := HB.out.size
    clear hb hP
    generalize w1.heap.size = mb at *
    have hpb : W.heap.size ≤ mb + 1 := by omega
    have hpm : mb < mb + 1 := Nat.lt_succ_self _
    generalize mb + 1 = pb at *
    go_wp2_with fail
    refine (run_any pb mb _ _ l W _ HS.out HB2.out HP2.out HN.out (by simp only [newS]; omega) (by omega) hpb hWs).mono ?_
    rintro e w3 ⟨rfl, hP, hv⟩
    rw [← HS1.out] at hP
    have HP3 := Lib.hid hP
    have hlt := hP.lt
    have HB3 := Lib.hid (hv.below HB2.out hpb hWs HB2.out.size)
    clear hP hv HP2
    go_wp2_with fail
    refine (raise_any pb mb s1 town level hour _ HP3.out (by omega) (by omega)).mono ?_
    rintro e w4 ⟨rfl, hP, hv⟩
    rw [HR.out] at hP ⊢
    have HB4 := Lib.hid (hv.below HB3.out hpb hWs HB3.out.size)
    clear hP hv
    go_wp2_with fail
    go_ret
    exact ⟨rfl, HB4.out⟩
  by_cases k1 : 40 ≤ town
  · have HR := Lib.hid (raise_no (s := s1) (t := town) (l := level) (h := hour) (by unfold okRaise; omega))
    go_enter Try.func4, Try.ntmps4
    go_wp2_with fail
    refine (small_any _).mono ?_
    rintro e w1 ⟨rfl, hb⟩
    have HB := Lib.hid hb
    clear hb
    go_wp2_with fail
    refine (new_any m hm1 hm2 _).mono ?_
    rintro e w2 ⟨rfl, hP, hb⟩
    have HB2 := Lib.hid (HB.out.trans (hb.mono HB.out.size))
    have HP2 := Lib.hid hP
    have hWs : W.heap.size ≤ w1.heap.size := HB.out.size
    clear hb hP
    generalize w1.heap.size = mb at *
    have hpb : W.heap.size ≤ mb + 1 := by omega
    have hpm : mb < mb + 1 := Nat.lt_succ_self _
    generalize mb + 1 = pb at *
    go_wp2_with fail
    refine (run_any pb mb _ _ l W _ HS.out HB2.out HP2.out HN.out (by simp only [newS]; omega) (by omega) hpb hWs).mono ?_
    rintro e w3 ⟨rfl, hP, hv⟩
    rw [← HS1.out] at hP
    have HP3 := Lib.hid hP
    have hlt := hP.lt
    have HB3 := Lib.hid (hv.below HB2.out hpb hWs HB2.out.size)
    clear hP hv HP2
    go_wp2_with fail
    refine (raise_any pb mb s1 town level hour _ HP3.out (by omega) (by omega)).mono ?_
    rintro e w4 ⟨rfl, hP, hv⟩
    rw [HR.out] at hP ⊢
    have HB4 := Lib.hid (hv.below HB3.out hpb hWs HB3.out.size)
    clear hP hv
    go_wp2_with fail
    go_ret
    exact ⟨rfl, HB4.out⟩
  by_cases k2 : level < 0
  · have HR := Lib.hid (raise_no (s := s1) (t := town) (l := level) (h := hour) (by unfold okRaise; omega))
    go_enter Try.func4, Try.ntmps4
    go_wp2_with fail
    refine (small_any _).mono ?_
    rintro e w1 ⟨rfl, hb⟩
    have HB := Lib.hid hb
    clear hb
    go_wp2_with fail
    refine (new_any m hm1 hm2 _).mono ?_
    rintro e w2 ⟨rfl, hP, hb⟩
    have HB2 := Lib.hid (HB.out.trans (hb.mono HB.out.size))
    have HP2 := Lib.hid hP
    have hWs : W.heap.size ≤ w1.heap.size := HB.out.size
    clear hb hP
    generalize w1.heap.size = mb at *
    have hpb : W.heap.size ≤ mb + 1 := by omega
    have hpm : mb < mb + 1 := Nat.lt_succ_self _
    generalize mb + 1 = pb at *
    go_wp2_with fail
    refine (run_any pb mb _ _ l W _ HS.out HB2.out HP2.out HN.out (by simp only [newS]; omega) (by omega) hpb hWs).mono ?_
    rintro e w3 ⟨rfl, hP, hv⟩
    rw [← HS1.out] at hP
    have HP3 := Lib.hid hP
    have hlt := hP.lt
    have HB3 := Lib.hid (hv.below HB2.out hpb hWs HB2.out.size)
    clear hP hv HP2
    go_wp2_with fail
    refine (raise_any pb mb s1 town level hour _ HP3.out (by omega) (by omega)).mono ?_
    rintro e w4 ⟨rfl, hP, hv⟩
    rw [HR.out] at hP ⊢
    have HB4 := Lib.hid (hv.below HB3.out hpb hWs HB3.out.size)
    clear hP hv
    go_wp2_with fail
    go_ret
    exact ⟨rfl, HB4.out⟩
  by_cases k3 : 3 < level
  · have HR := Lib.hid (raise_no (s := s1) (t := town) (l := level) (h := hour) (by unfold okRaise; omega))
    go_enter Try.func4, Try.ntmps4
    go_wp2_with fail
    refine (small_any _).mono ?_
    rintro e w1 ⟨rfl, hb⟩
    have HB := Lib.hid hb
    clear hb
    go_wp2_with fail
    refine (new_any m hm1 hm2 _).mono ?_
    rintro e w2 ⟨rfl, hP, hb⟩
    have HB2 := Lib.hid (HB.out.trans (hb.mono HB.out.size))
    have HP2 := Lib.hid hP
    have hWs : W.heap.size ≤ w1.heap.size := HB.out.size
    clear hb hP
    generalize w1.heap.size = mb at *
    have hpb : W.heap.size ≤ mb + 1 := by omega
    have hpm : mb < mb + 1 := Nat.lt_succ_self _
    generalize mb + 1 = pb at *
    go_wp2_with fail
    refine (run_any pb mb _ _ l W _ HS.out HB2.out HP2.out HN.out (by simp only [newS]; omega) (by omega) hpb hWs).mono ?_
    rintro e w3 ⟨rfl, hP, hv⟩
    rw [← HS1.out] at hP
    have HP3 := Lib.hid hP
    have hlt := hP.lt
    have HB3 := Lib.hid (hv.below HB2.out hpb hWs HB2.out.size)
    clear hP hv HP2
    go_wp2_with fail
    refine (raise_any pb mb s1 town level hour _ HP3.out (by omega) (by omega)).mono ?_
    rintro e w4 ⟨rfl, hP, hv⟩
    rw [HR.out] at hP ⊢
    have HB4 := Lib.hid (hv.below HB3.out hpb hWs HB3.out.size)
    clear hP hv
    go_wp2_with fail
    go_ret
    exact ⟨rfl, HB4.out⟩
  by_cases k4 : hour < 0
  · have HR := Lib.hid (raise_no (s := s1) (t := town) (l := level) (h := hour) (by unfold okRaise; omega))
    go_enter Try.func4, Try.ntmps4
    go_wp2_with fail
    refine (small_any _).mono ?_
    rintro e w1 ⟨rfl, hb⟩
    have HB := Lib.hid hb
    clear hb
    go_wp2_with fail
    refine (new_any m hm1 hm2 _).mono ?_
    rintro e w2 ⟨rfl, hP, hb⟩
    have HB2 := Lib.hid (HB.out.trans (hb.mono HB.out.size))
    have HP2 := Lib.hid hP
    have hWs : W.heap.size ≤ w1.heap.size := HB.out.size
    clear hb hP
    generalize w1.heap.size = mb at *
    have hpb : W.heap.size ≤ mb + 1 := by omega
    have hpm : mb < mb + 1 := Nat.lt_succ_self _
    generalize mb + 1 = pb at *
    go_wp2_with fail
    refine (run_any pb mb _ _ l W _ HS.out HB2.out HP2.out HN.out (by simp only [newS]; omega) (by omega) hpb hWs).mono ?_
    rintro e w3 ⟨rfl, hP, hv⟩
    rw [← HS1.out] at hP
    have HP3 := Lib.hid hP
    have hlt := hP.lt
    have HB3 := Lib.hid (hv.below HB2.out hpb hWs HB2.out.size)
    clear hP hv HP2
    go_wp2_with fail
    refine (raise_any pb mb s1 town level hour _ HP3.out (by omega) (by omega)).mono ?_
    rintro e w4 ⟨rfl, hP, hv⟩
    rw [HR.out] at hP ⊢
    have HB4 := Lib.hid (hv.below HB3.out hpb hWs HB3.out.size)
    clear hP hv
    go_wp2_with fail
    go_ret
    exact ⟨rfl, HB4.out⟩
  by_cases k5 : 16777216 < hour
  · have HR := Lib.hid (raise_no (s := s1) (t := town) (l := level) (h := hour) (by unfold okRaise; omega))
    go_enter Try.func4, Try.ntmps4
    go_wp2_with fail
    refine (small_any _).mono ?_
    rintro e w1 ⟨rfl, hb⟩
    have HB := Lib.hid hb
    clear hb
    go_wp2_with fail
    refine (new_any m hm1 hm2 _).mono ?_
    rintro e w2 ⟨rfl, hP, hb⟩
    have HB2 := Lib.hid (HB.out.trans (hb.mono HB.out.size))
    have HP2 := Lib.hid hP
    have hWs : W.heap.size ≤ w1.heap.size := HB.out.size
    clear hb hP
    generalize w1.heap.size = mb at *
    have hpb : W.heap.size ≤ mb + 1 := by omega
    have hpm : mb < mb + 1 := Nat.lt_succ_self _
    generalize mb + 1 = pb at *
    go_wp2_with fail
    refine (run_any pb mb _ _ l W _ HS.out HB2.out HP2.out HN.out (by simp only [newS]; omega) (by omega) hpb hWs).mono ?_
    rintro e w3 ⟨rfl, hP, hv⟩
    rw [← HS1.out] at hP
    have HP3 := Lib.hid hP
    have hlt := hP.lt
    have HB3 := Lib.hid (hv.below HB2.out hpb hWs HB2.out.size)
    clear hP hv HP2
    go_wp2_with fail
    refine (raise_any pb mb s1 town level hour _ HP3.out (by omega) (by omega)).mono ?_
    rintro e w4 ⟨rfl, hP, hv⟩
    rw [HR.out] at hP ⊢
    have HB4 := Lib.hid (hv.below HB3.out hpb hWs HB3.out.size)
    clear hP hv
    go_wp2_with fail
    go_ret
    exact ⟨rfl, HB4.out⟩
  have HRok : Hid (okRaise town level hour) := Lib.hid (by unfold okRaise; omega)
  have hry := raise_yes s1 HRok.out
  have hrr := raise_r s1 town level hour
  have hrn := raise_n s1 town level hour
  have HR1 := Lib.hid hry.1
  have HR2 := Lib.hid hry.2
  have HRO := Lib.hid (raise_ok HO.out town level hour)
  clear hry
  have k6 : ¬ (s1.r : Int) + 1 = 0 := by omega
  have HK6 := Lib.hid k6
  clear k6
  go_enter Try.func4, Try.ntmps4
  go_wp2_with fail
  refine (small_any _).mono ?_
  rintro e w1 ⟨rfl, hb⟩
  have HB := Lib.hid hb
  clear hb
  go_wp2_with fail
  refine (new_any m hm1 hm2 _).mono ?_
  rintro e w2 ⟨rfl, hP, hb⟩
  have HB2 := Lib.hid (HB.out.trans (hb.mono HB.out.size))
  have HP2 := Lib.hid hP
  have hWs : W.heap.size ≤ w1.heap.size := HB.out.size
  clear hb hP
  generalize w1.heap.size = mb at *
  have hpb : W.heap.size ≤ mb + 1 := by omega
  have hpm : mb < mb + 1 := Nat.lt_succ_self _
  generalize mb + 1 = pb at *
  go_wp2_with fail
  refine (run_any pb mb _ _ l W _ HS.out HB2.out HP2.out HN.out (by simp only [newS]; omega) (by omega) hpb hWs).mono ?_
  rintro e w3 ⟨rfl, hP, hv⟩
  rw [← HS1.out] at hP
  have HP3 := Lib.hid hP
  have hlt := hP.lt
  have HB3 := Lib.hid (hv.below HB2.out hpb hWs HB2.out.size)
  clear hP hv HP2
  go_wp2_with fail
  refine (raise_any pb mb s1 town level hour _ HP3.out (by omega) (by omega)).mono ?_
  rintro e w4 ⟨rfl, hP, hv⟩
  rw [HR1.out]
  obtain ⟨s2, hs2⟩ : ∃ s2, s2 = (raiseS s1 town level hour).2 := ⟨_, rfl⟩
  rw [← hs2] at hP hrr hrn HR2 HRO
  have HP4 := Lib.hid hP
  have hlt4 := hP.lt
  have HB4 := Lib.hid (hv.below HB3.out hpb hWs HB3.out.size)
  clear hP hv HP3 hs2 HR1 hlt
  obtain ⟨num, hnum⟩ : ∃ num : Int, num = (s1.r : Int) + 1 := ⟨_, rfl⟩
  rw [← hnum] at HR2 ⊢
  have hnb : 1 ≤ num ∧ num ≤ 41 := by omega
  have hnz : (num == 0) = false := by rw [beq_eq_false_iff_ne]; omega
  have HNZ := Lib.hid hnz
  have hs2r : s2.r ≤ 41 := by omega
  have hs2n : s2.n = m := by omega
  clear hnum hrr hrn hr1 hn1 hml HK6 HS1 HO HN
  go_wp2_with fail
  have hml4 : mb < w4.heap.size := hlt4.2
  have hpl4 : pb < w4.heap.size := hlt4.1
  clear hlt4
  generalize w4.heap.size = B4 at hml4 hpl4
  go_loopw [18, 19] (fun d i wr => ∃ (t : Int) (s' : WS) (dn : Bool), hour - 1 ≤ t ∧ t ≤ hour + 60 ∧ i = .int .i64 t ∧ d = .bool dn ∧ (dn = true → hour + aft < t) ∧ WOk s' ∧ s'.n = m ∧ s'.r ≤ 41 ∧ getM s'.m town = some ⟨level, num, hour, dn⟩ ∧ PAt wr pb mb s' ∧ Mv pb mb w4 wr) (fun _ i _ => (hour + 60 - intOf i).toNat)
  case atStart => exact ⟨hour - 1, s2, false, by omega, by omega, rfl, rfl, by simp, HRO.out, hs2n, hs2r, HR2.out, HP4.out, Mv.refl _ _ _⟩
  case round =>
    obtain ⟨t, s', dn, ht1, ht2, rfl, rfl, hdn, hso, hsn, hsr, hg, hP, hV⟩ := hrel
    have HSO := Lib.hid hso
    have HG := Lib.hid hg
    have HPk := Lib.hid hP
    have HVk := Lib.hid hV
    have hmk := m_len hso
    have HSN := Lib.hid hsn
    have HDN := Lib.hid hdn
    clear hso hg hP hV hsn hdn HP4 HRO HR2 hs2r hs2n
    have hti : -9223372036854775808 ≤ t ∧ t ≤ 9223372036854775807 := by omega
    by_cases hlt : t < hour + 60
    · obtain ⟨b, hb⟩ : ∃ b : Bool, b = decide (t = hour + aft ∧ 0 ≤ who ∧ who < m) := ⟨_, rfl⟩
      have HBd := Lib.hid hb
      clear hb
      go_upto_region 13 with (fail)
      go_cut [92] (fun v wx => v = .bool b ∧ wx = wr)
      case first =>
        by_cases g1 : t = hour + aft
        · have g1' : (t == hour + aft) = true := by rw [beq_iff_eq]; exact g1
          by_cases g2 : who < 0
          · have HBf : Hid (b = false) := Lib.hid (by rw [HBd.out]; exact decide_eq_false (by omega))
            clear g1
            go_wp2_with fail
            go_meet
            exact ⟨congrArg Value.bool HBf.out.symm, rfl⟩
          · by_cases g3 : who < m
            · have HBf : Hid (b = true) := Lib.hid (by rw [HBd.out]; exact decide_eq_true (by omega))
              clear g1
              go_wp2_with fail
              go_meet
              exact ⟨congrArg Value.bool HBf.out.symm, rfl⟩
            · have HBf : Hid (b = false) := Lib.hid (by rw [HBd.out]; exact decide_eq_false (by omega))
              clear g1
              go_wp2_with fail
              go_meet
              exact ⟨congrArg Value.bool HBf.out.symm, rfl⟩
        · have g1' : (t == hour + aft) = false := by rw [beq_eq_false_iff_ne]; exact g1
          have HBf : Hid (b = false) := Lib.hid (by rw [HBd.out]; exact decide_eq_false (by omega))
          clear g1
          go_wp2_with fail
          go_meet
          exact ⟨congrArg Value.bool HBf.out.symm, rfl⟩
      case rest =>
        obtain ⟨rfl, rfl⟩ := hcut
        go_upto_if 92 with (fail)
        go_cut [18] (fun v wx => ∃ (s3 : WS) (d3 : Bool), v = .bool d3 ∧ (d3 = true → hour + aft < t + 1) ∧ WOk s3 ∧ s3.n = m ∧ s3.r ≤ 41 ∧ getM s3.m town = some ⟨level, num, hour, d3⟩ ∧ PAt wx pb mb s3 ∧ Mv pb mb w4 wx)
        case first =>
          cases b with
          | true =>
            have hcnd := of_decide_eq_true HBd.out.symm
            obtain rfl : dn = false := by
              cases dn with
              | false => rfl
              | true => exact absurd (HDN.out rfl) (by omega)
            have hak := ack_got (s := s') (who := who) HG.out hcnd.2.1 (by rw [HSN.out]; exact hcnd.2.2)
            have HA1 := Lib.hid hak.1
            have HA2 := Lib.hid hak.2
            have HAr := Lib.hid (ack_r s' ⟨town, 0, num, who⟩)
            have HAo := Lib.hid (ack_ok HSO.out ⟨town, 0, num, who⟩)
            have HC := Lib.hid hcnd
            clear hak hcnd
            go_wp2_with fail
            refine (ack_any pb mb s' ⟨town, 0, num, who⟩ _ HPk.out (by unfold COk I64; simp only; omega) (by omega)).mono ?_
            rintro e w5 ⟨rfl, hP, hv⟩
            rw [HA1.out]
            have HP5 := Lib.hid hP
            have HV5 := Lib.hid (HVk.out.trans hv)
            clear hP hv
            go_wp2_with fail
            go_meet
            exact ⟨_, true, rfl, fun _ => by have := HC.out; omega, HAo.out, HAr.out.2.trans HSN.out, by rw [HAr.out.1]; exact hsr, HA2.out, HP5.out, HV5.out⟩
          | false =>
            go_wp2_with fail
            go_meet
            exact ⟨s', dn, rfl, fun h => by have := HDN.out h; omega, HSO.out, HSN.out, hsr, HG.out, HPk.out, HVk.out⟩
        case rest =>
          obtain ⟨s3, d3, rfl, hd3, ho3, hn3, hr3, hg3, hP3, hV3⟩ := hcut
          have HW := Lib.hid (want_is (h := t) ho3 hg3)
          have HCi := Lib.hid (fun (k : Nat) (c : CV) => call_is (h := t) ho3 hg3 (k := k) (c := c))
          have HO3 := Lib.hid ho3
          have HP3 := Lib.hid hP3
          have HV3 := Lib.hid hV3
          have HG3 := Lib.hid hg3
          have HN3 := Lib.hid hn3
          have HD3 := Lib.hid hd3
          have hml3 := m_len ho3
          obtain ⟨L, hL⟩ : ∃ L, L = dueS s3 t := ⟨_, rfl⟩
          have hLl : L.length ≤ 640 := by rw [hL]; exact due_len HO3.out t
          rw [← hL] at HW HCi
          have HL := Lib.hid hL
          clear ho3 hP3 hV3 hg3 hn3 hd3 hL HG HPk HVk HSN HDN HSO hsr hmk HBd
          by_cases hth : hour ≤ t
          · cases d3 with
            | true =>
              go_wp2_with fail
              refine (due_any pb mb s3 t _ HP3.out HO3.out hti).mono ?_
              rintro e w6 ⟨v1, rfl, hown, hb⟩
              rw [← HL.out] at hown
              obtain ⟨a1, d1, rfl⟩ := (CFrom.of_owns hown).slice
              have HC6 := Lib.hid (CFrom.of_owns hown)
              have HP6 := Lib.hid (HP3.out.below hb)
              have HV6 := Lib.hid (HV3.out.trans (Mv.of_below hb))
              clear hown hb HP3 HV3
              go_wp2_with fail
              go_loop [22, 23] (fun g i => ∃ k : Nat, k ≤ L.length ∧ i = .int .i64 k ∧ g = .int .i64 (ofTown L town k : Nat)) (fun _ i => L.length - (intOf i).toNat)
              case atStart => exact ⟨0, Nat.zero_le _, rfl, by unfold ofTown; rfl⟩
              case round =>
                obtain ⟨k, hk, rfl, rfl⟩ := hrel
                by_cases hkl : k < L.length
                · obtain ⟨x, hx⟩ : ∃ x, L[k]? = some x := ⟨_, List.getElem?_eq_getElem hkl⟩
                  obtain ⟨b9, c9, he, _, _, hrg⟩ := HC6.out.at hx
                  simp only [Value.slice.injEq, true_and] at he
                  obtain ⟨rfl, rfl⟩ := he
                  have hot := ofTown_le L town k
                  by_cases hxt : x.town = town
                  · obtain ⟨hxe, hnx⟩ := HCi.out k x hx hxt
                    have HNx := Lib.hid hnx
                    subst hxe
                    obtain ⟨c0, c1, c2, c3⟩ := range4 hrg
                    have heq := eqC town level num (ofTown L town k) town level num (ofTown L town k)
                    rw [decide_eq_true ⟨rfl, rfl, rfl, rfl⟩] at heq
                    clear hx hrg hxt hnx
                    go_wp2_with fail
                    go_round
                    case rel => exact ⟨k + 1, by omega, by go_num, by rw [HNx.out]; go_num⟩
                    case measure => simp [intOf]; omega
                  · have HNx := Lib.hid (ofTown_skip hx hxt)
                    have t1 : (x.town == town) = false := by rw [beq_eq_false_iff_ne]; exact hxt
                    have t2 : (x.town != town) = true := by rw [bne_iff_ne]; exact hxt
                    obtain ⟨c0, c1, c2, c3⟩ := range4 hrg
                    clear hx hrg hxt
                    go_wp2_with fail
                    go_round
                    case rel => exact ⟨k + 1, by omega, by go_num, by rw [HNx.out]⟩
                    case measure => simp [intOf]; omega
                · obtain rfl : k = L.length := by omega
                  have hz : ofTown L town L.length = 0 := by
                    have := HW.out
                    rw [if_neg (by intro h; cases h.1)] at this
                    omega
                  rw [hz]
                  clear hz
                  go_wp2_with fail
                  go_roundw
                  case rel => exact ⟨t + 1, s3, true, by omega, by omega, by go_num, rfl, (fun h => HD3.out (by first | exact h | trivial)), HO3.out, HN3.out, hr3, HG3.out, HP6.out, HV6.out⟩
                  case measure => simp [intOf]; omega
            | false =>
              go_wp2_with fail
              refine (due_any pb mb s3 t _ HP3.out HO3.out hti).mono ?_
              rintro e w6 ⟨v1, rfl, hown, hb⟩
              rw [← HL.out] at hown
              obtain ⟨a1, d1, rfl⟩ := (CFrom.of_owns hown).slice
              have HC6 := Lib.hid (CFrom.of_owns hown)
              have HP6 := Lib.hid (HP3.out.below hb)
              have HV6 := Lib.hid (HV3.out.trans (Mv.of_below hb))
              clear hown hb HP3 HV3
              go_wp2_with fail
              go_loop [22, 23] (fun g i => ∃ k : Nat, k ≤ L.length ∧ i = .int .i64 k ∧ g = .int .i64 (ofTown L town k : Nat)) (fun _ i => L.length - (intOf i).toNat)
              case atStart => exact ⟨0, Nat.zero_le _, rfl, by unfold ofTown; rfl⟩
              case round =>
                obtain ⟨k, hk, rfl, rfl⟩ := hrel
                by_cases hkl : k < L.length
                · obtain ⟨x, hx⟩ : ∃ x, L[k]? = some x := ⟨_, List.getElem?_eq_getElem hkl⟩
                  obtain ⟨b9, c9, he, _, _, hrg⟩ := HC6.out.at hx
                  simp only [Value.slice.injEq, true_and] at he
                  obtain ⟨rfl, rfl⟩ := he
                  have hot := ofTown_le L town k
                  by_cases hxt : x.town = town
                  · obtain ⟨hxe, hnx⟩ := HCi.out k x hx hxt
                    have HNx := Lib.hid hnx
                    subst hxe
                    obtain ⟨c0, c1, c2, c3⟩ := range4 hrg
                    have heq := eqC town level num (ofTown L town k) town level num (ofTown L town k)
                    rw [decide_eq_true ⟨rfl, rfl, rfl, rfl⟩] at heq
                    clear hx hrg hxt hnx
                    go_wp2_with fail
                    go_round
                    case rel => exact ⟨k + 1, by omega, by go_num, by rw [HNx.out]; go_num⟩
                    case measure => simp [intOf]; omega
                  · have HNx := Lib.hid (ofTown_skip hx hxt)
                    have t1 : (x.town == town) = false := by rw [beq_eq_false_iff_ne]; exact hxt
                    have t2 : (x.town != town) = true := by rw [bne_iff_ne]; exact hxt
                    obtain ⟨c0, c1, c2, c3⟩ := range4 hrg
                    clear hx hrg hxt
                    go_wp2_with fail
                    go_round
                    case rel => exact ⟨k + 1, by omega, by go_num, by rw [HNx.out]⟩
                    case measure => simp [intOf]; omega
                · obtain rfl : k = L.length := by omega
                  have hz : (ofTown L town L.length : Int) = min (m : Int) (1 + (t - hour) / 3) := by
                    have := HW.out
                    rw [if_pos ⟨by trivial, by omega⟩, HN3.out] at this
                    exact this
                  rw [hz]
                  clear hz
                  go_wp2_with fail
                  go_roundw
                  case rel => exact ⟨t + 1, s3, false, by omega, by omega, by go_num, rfl, (fun h => HD3.out (by first | exact h | trivial)), HO3.out, HN3.out, hr3, HG3.out, HP6.out, HV6.out⟩
                  case measure => simp [intOf]; omega
          · go_wp2_with fail
            refine (due_any pb mb s3 t _ HP3.out HO3.out hti).mono ?_
            rintro e w6 ⟨v1, rfl, hown, hb⟩
            rw [← HL.out] at hown
            obtain ⟨a1, d1, rfl⟩ := (CFrom.of_owns hown).slice
            have HC6 := Lib.hid (CFrom.of_owns hown)
            have HP6 := Lib.hid (HP3.out.below hb)
            have HV6 := Lib.hid (HV3.out.trans (Mv.of_below hb))
            clear hown hb HP3 HV3
            go_wp2_with fail
            go_loop [22, 23] (fun g i => ∃ k : Nat, k ≤ L.length ∧ i = .int .i64 k ∧ g = .int .i64 (ofTown L town k : Nat)) (fun _ i => L.length - (intOf i).toNat)
            case atStart => exact ⟨0, Nat.zero_le _, rfl, by unfold ofTown; rfl⟩
            case round =>
              obtain ⟨k, hk, rfl, rfl⟩ := hrel
              by_cases hkl : k < L.length
              · obtain ⟨x, hx⟩ : ∃ x, L[k]? = some x := ⟨_, List.getElem?_eq_getElem hkl⟩
                obtain ⟨b9, c9, he, _, _, hrg⟩ := HC6.out.at hx
                simp only [Value.slice.injEq, true_and] at he
                obtain ⟨rfl, rfl⟩ := he
                have hot := ofTown_le L town k
                by_cases hxt : x.town = town
                · obtain ⟨hxe, hnx⟩ := HCi.out k x hx hxt
                  have HNx := Lib.hid hnx
                  subst hxe
                  obtain ⟨c0, c1, c2, c3⟩ := range4 hrg
                  have heq := eqC town level num (ofTown L town k) town level num (ofTown L town k)
                  rw [decide_eq_true ⟨rfl, rfl, rfl, rfl⟩] at heq
                  clear hx hrg hxt hnx
                  go_wp2_with fail
                  go_round
                  case rel => exact ⟨k + 1, by omega, by go_num, by rw [HNx.out]; go_num⟩
                  case measure => simp [intOf]; omega
                · have HNx := Lib.hid (ofTown_skip hx hxt)
                  have t1 : (x.town == town) = false := by rw [beq_eq_false_iff_ne]; exact hxt
                  have t2 : (x.town != town) = true := by rw [bne_iff_ne]; exact hxt
                  obtain ⟨c0, c1, c2, c3⟩ := range4 hrg
                  clear hx hrg hxt
                  go_wp2_with fail
                  go_round
                  case rel => exact ⟨k + 1, by omega, by go_num, by rw [HNx.out]⟩
                  case measure => simp [intOf]; omega
              · obtain rfl : k = L.length := by omega
                have hz : ofTown L town L.length = 0 := by
                  have := HW.out
                  rw [if_neg (by intro h; omega)] at this
                  omega
                rw [hz]
                clear hz
                go_wp2_with fail
                go_roundw
                case rel => exact ⟨t + 1, s3, d3, by omega, by omega, by go_num, rfl, (fun h => HD3.out (by first | exact h | trivial)), HO3.out, HN3.out, hr3, HG3.out, HP6.out, HV6.out⟩
                case measure => simp [intOf]; omega
    · go_wp2_with fail
      go_ret
      exact ⟨rfl, HVk.out.below HB4.out hpb hWs HB4.out.size⟩
end Go.Proofs.Ythijckdablkofaa
