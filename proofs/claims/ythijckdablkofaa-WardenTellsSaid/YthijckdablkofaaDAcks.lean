/- bournelaw44.WardenAcks returns true for all numbers of wardens, steps and hours. -/
import Derived.Test.YthijckdablkofaaDRun
import Derived.IntWalk
namespace Go.Proofs.Ythijckdablkofaa
open Go.RowKit
/-- the state in which the orders of the towns S are done besides -/
def MS (S : List Int) (s : WS) : WS := ⟨s.n, s.r, markM S s.m⟩
theorem ms_nil (s : WS) : MS [] s = s := by
  unfold MS
  rw [mark_nil]
theorem markM_len (S : List Int) (m : OM) : (markM S m).length = m.length := by
  unfold markM
  rw [List.length_map]
theorem ms_ok {s : WS} (h : WOk s) (S : List Int) : WOk (MS S s) := by
  refine ⟨h.n1, h.n16, sorted_mark S h.sorted, fun p hp => ?_⟩
  obtain ⟨q, hq, rfl⟩ := List.mem_map.1 hp
  have := h.ok q hq
  unfold markO
  simp only
  split <;> exact this
theorem ack_seen {s : WS} {S : List Int} {c : CV} (h : c.town ∈ S) : ackS (MS S s) c = (false, MS S s) := by
  have : awaitsS (MS S s) c = false := by
    unfold awaitsS MS
    simp only
    rw [get_mark]
    cases getM s.m c.town with
    | none => rfl
    | some o => simp [awaitsO, markO, h]
  unfold ackS
  rw [this]
  rfl
theorem awaits_due {s : WS} (hs : WOk s) {S : List Int} {h : Int} {c : CV} (hc : c ∈ dueS s h) (hn : ¬ c.town ∈ S) : awaitsS (MS S s) c = true := by
  obtain ⟨o, h1, h2, _, h4, h5, h6, _⟩ := mem_due hs hc
  unfold awaitsS MS
  simp only
  rw [get_mark, h1]
  simp [awaitsO, markO, hn, h2, h4, h5, h6]
theorem ack_due {s : WS} (hs : WOk s) {S : List Int} {h : Int} {c : CV} (hc : c ∈ dueS s h) (hn : ¬ c.town ∈ S) : ackS (MS S s) c = (true, MS (S ++ [c.town]) s) := by
  have ha := awaits_due hs hc hn
  obtain ⟨o, h1, _⟩ := mem_due hs hc
  unfold ackS
  rw [if_pos ha]
  have hg : getM (MS S s).m c.town = some o := by
    unfold MS
    simp only
    rw [get_mark, h1]
    simp [markO, hn]
  rw [hg]
  unfold ackO MS
  simp only
  rw [put_mark hs.sorted h1 hn]
theorem awaits_after {s : WS} (S : List Int) (c : CV) : awaitsS (MS (S ++ [c.town]) s) c = false := by
  unfold awaitsS MS
  simp only
  rw [get_mark]
  cases getM s.m c.town with
  | none => rfl
  | some o => simp [awaitsO, markO]
theorem due_cok {s : WS} (hs : WOk s) (hr : s.r ≤ 1000000) {h : Int} {c : CV} (hc : c ∈ dueS s h) : COk c := by
  obtain ⟨o, h1, h2, h3, h4, h5, h6, _⟩ := mem_due hs hc
  have h7 := hs.ok _ (get_mem h1)
  have h8 := hs.n16
  simp only at h7
  unfold COk I64
  omega
theorem cnt_openM_new {s : WS} (hs : WOk s) {S : List Int} {h : Int} {c : CV} (hc : c ∈ dueS s h) (hn : ¬ c.town ∈ S) : cnt (S ++ [c.town]) (openM s.m) = cnt S (openM s.m) + 1 := by
  obtain ⟨o, h1, h2, _⟩ := mem_due hs hc
  refine cnt_new hn (List.Pairwise.filter _ hs.sorted) (o := o) ?_
  unfold openM
  rw [List.mem_filter]
  exact ⟨get_mem h1, by simp [h2]⟩
theorem open_after (s : WS) (S : List Int) : ((openS (MS S s)).length : Int) = ((openS s).length : Int) - cnt S (openM s.m) := by
  unfold openS MS
  simp only
  rw [open_mark, List.length_map, List.length_map, cnt_left]
theorem cnt_le (S : List Int) (m : OM) : cnt S m ≤ m.length := List.countP_le_length
theorem ms_again {S : List Int} {t : Int} (h : t ∈ S) (s : WS) : MS (S ++ [t]) s = MS S s := by
  unfold MS
  rw [mark_again (S := S ++ [t]) (T := S)]
  intro x
  simp only [List.mem_append, List.mem_singleton]
  constructor
  · rintro (h1 | h1)
    · exact h1
    · rw [h1]; exact h
  · exact Or.inl
theorem CFrom.at {B : Nat} {l : List CV} {v : Value} {w : World} (h : CFrom B v l w) {k : Nat} {x : CV} (hx : l[k]? = some x) :
    ∃ b c, v = .slice (some ⟨b, 0, none⟩) l.length c ∧ B ≤ b ∧ b < w.heap.size ∧ w.rangeAt b (k * 4) (cCl x) := by
  obtain ⟨a, c, rfl, h⟩ := h
  obtain ⟨b, rfl, h2, h3, h4⟩ := h k x hx
  exact ⟨b, c, rfl, h2, h3, h4⟩
theorem CFrom.at2 {B : Nat} {l : List CV} {b n c : Nat} {w : World} (h : CFrom B (.slice (some ⟨b, 0, none⟩) n c) l w) {k : Nat} {x : CV} (hx : l[k]? = some x) : w.rangeAt b (k * 4) (cCl x) := by
  obtain ⟨a, c', he, h⟩ := h
  obtain ⟨b', h1, h2, h3, h4⟩ := h k x hx
  simp only [Value.slice.injEq] at he
  rw [← he.1] at h1
  simp only [Option.some.injEq, Addr.mk.injEq, and_true] at h1
  rw [h1]
  exact h4
theorem CFrom.slice {B : Nat} {l : List CV} {v : Value} {w : World} (h : CFrom B v l w) : ∃ a c, v = .slice a l.length c := by
  obtain ⟨a, c, rfl, _⟩ := h
  exact ⟨a, c, rfl⟩
theorem SArg.slice {W : World} {l : List SV} {v : Value} (h : SArg v l W) : ∃ a c, v = .slice a l.length c := by
  obtain ⟨a, c, rfl, _⟩ := h
  exact ⟨a, c, rfl⟩
theorem PAt.drewN {w : World} {pb mb : Nat} {s : WS} (h : PAt w pb mb s) (n : Nat) : PAt (w.drewN n) pb mb s := ⟨h.row, h.map⟩
theorem CFrom.drewN {w : World} {B : Nat} {v : Value} {l : List CV} (h : CFrom B v l w) (n : Nat) : CFrom B v l (w.drewN n) := h
set_option maxRecDepth 100000 in
set_option maxHeartbeats 8000000 in
theorem acks_core (n : Int) (v : Value) (l : List SV) (h : Int) (W : World) (hn : I64 n) (hS : SArg v l W) (hlen : (l.length : Int) ≤ maxLen) (hh : I64 h) :
    Calls Try.prog 5 #[.int .i64 n, v, .int .i64 h] W fun e w' => e = .returned (.bool true) ∧ Below W.heap.size W w' := by
  unfold I64 at hn hh
  unfold maxLen at hlen
  have HS := Lib.hid hS
  obtain ⟨a, c, rfl⟩ := hS.slice
  clear hS
  by_cases hbad : n < 1 ∨ 16 < n
  · have HBad := Lib.hid hbad
    clear hbad
    go_enter Try.func5, Try.ntmps5
    go_wp2_with fail
    refine (small_any _).mono ?_
    rintro e w1 ⟨rfl, hb⟩
    have HB := Lib.hid hb
    clear hb
    go_wp2_with fail
    refine (new_none n HBad.out _).mono ?_
    rintro e w2 ⟨rfl, rfl⟩
    go_wp2_with fail
    go_ret
    exact ⟨rfl, HB.out⟩
  obtain ⟨m, rfl⟩ : ∃ m : Nat, n = m := ⟨n.toNat, by omega⟩
  have hm1 : 1 ≤ m := by omega
  have hm2 : m ≤ 16 := by omega
  clear hbad hn
  by_cases hl : 40 < l.length
  · go_enter Try.func5, Try.ntmps5
    go_wp2_with fail
    refine (small_any _).mono ?_
    rintro e w1 ⟨rfl, hb⟩
    have HB := Lib.hid hb
    clear hb
    go_wp2_with fail
    refine (new_any m hm1 hm2 _).mono ?_
    rintro e w2 ⟨rfl, _, hb⟩
    have HB2 := Lib.hid (HB.out.trans (hb.mono HB.out.size))
    clear hb
    go_wp2_with fail
    go_ret
    exact ⟨rfl, HB2.out⟩
  have hs0 := newS_ok hm1 hm2
  have hrun := run_ok l hs0
  have hr1 : (runS (newS m) l).r ≤ 40 := by have := hrun.2.1; have h0 : (newS m).r = 0 := rfl; omega
  have HO := Lib.hid hrun.1
  have HN := Lib.hid hs0
  clear hrun hs0
  obtain ⟨s1, hs1⟩ : ∃ s1, s1 = runS (newS m) l := ⟨_, rfl⟩
  have HS1 := Lib.hid hs1
  rw [← hs1] at HO hr1
  clear hs1
  obtain ⟨L, hL⟩ : ∃ L, L = dueS s1 h := ⟨_, rfl⟩
  have hLl : L.length ≤ 640 := by rw [hL]; exact due_len HO.out h
  have HL := Lib.hid hL
  have hol : (openS s1).length ≤ 40 := by unfold openS; rw [List.length_map]; exact openM_len HO.out
  have hml := m_len HO.out
  clear hL
  go_enter Try.func5, Try.ntmps5
  go_wp2_with fail
  refine (small_any _).mono ?_
  rintro e w1 ⟨rfl, hb⟩
  have HB := Lib.hid hb
  clear hb
  go_wp2_with fail
  refine (new_any m hm1 hm2 _).mono ?_
  rintro e w2 ⟨rfl, hP, hb⟩
  have HB2 := Lib.hid (HB.out.trans (hb.mono HB.out.size))
  have HP2 := Lib.hid hP
  have hWs : W.heap.size ≤ w1.heap.size := HB.out.size
  clear hb hP
  generalize w1.heap.size = mb at *
  have hpb : W.heap.size ≤ mb + 1 := by omega
  have hpm : mb < mb + 1 := Nat.lt_succ_self _
  generalize mb + 1 = pb at *
  go_wp2_with fail
  refine (run_any pb mb _ _ l W _ HS.out HB2.out HP2.out HN.out (by simp only [newS]; omega) (by omega) hpb hWs).mono ?_
  rintro e w3 ⟨rfl, hP, hv⟩
  rw [← HS1.out] at hP
  have HP3 := Lib.hid hP
  have hlt := hP.lt
  have HB3 := Lib.hid (hv.below HB2.out hpb hWs HB2.out.size)
  clear hP hv HP2
  go_wp2_with fail
  refine (due_any pb mb s1 h _ HP3.out HO.out hh).mono ?_
  rintro e w4 ⟨v1, rfl, hown, hb⟩
  rw [← HL.out] at hown
  obtain ⟨a1, d1, rfl⟩ := (CFrom.of_owns hown).slice
  have HC4 := Lib.hid (CFrom.of_owns hown)
  have HP4 := Lib.hid (HP3.out.below hb)
  have HB4 := Lib.hid (HB3.out.trans (hb.mono HB3.out.size))
  clear hown hb HP3
  go_wp2_with fail
  refine (open_any pb mb s1 _ HP4.out HO.out).mono ?_
  rintro e w5 ⟨v2, rfl, hown, hb⟩
  obtain ⟨a2, d2, rfl, _⟩ := IArg.of_owns hown
  have HC5 := Lib.hid (HC4.out.below hb)
  have HP5 := Lib.hid (HP4.out.below hb)
  have HB5 := Lib.hid (HB4.out.trans (hb.mono HB4.out.size))
  clear hown hb HP4 HC4
  have hB3 : mb < w3.heap.size := hlt.2
  have hB3' : pb < w3.heap.size := hlt.1
  generalize w3.heap.size = B3 at *
  go_wp2_with fail
  go_loopw [6, 11, 12] (fun r acc i wr => ∃ k : Nat, k ≤ L.length ∧ i = .int .i64 k ∧ acc = .int .i64 (cnt (seenT L k) (openM s1.m) : Nat) ∧ r = .bool false ∧ PAt wr pb mb (MS (seenT L k) s1) ∧ CFrom B3 (.slice a1 L.length d1) L wr ∧ Below W.heap.size W wr) (fun _ _ i _ => L.length - (intOf i).toNat)
  case atStart =>
    refine ⟨0, Nat.zero_le _, rfl, ?_, rfl, ?_, HC5.out, HB5.out⟩
    · have : cnt (seenT L 0) (openM s1.m) = 0 := by unfold cnt seenT; simp
      rw [this]
      rfl
    · have : MS (seenT L 0) s1 = s1 := ms_nil s1
      rw [this]
      exact HP5.out
  case round =>
    obtain ⟨k, hk, rfl, rfl, rfl, hP, hC, hB⟩ := hrel
    have HPk := Lib.hid hP
    have HCk := Lib.hid hC
    have HBk := Lib.hid hB
    have hOk := Lib.hid (ms_ok HO.out (seenT L k))
    have hlm : (MS (seenT L k) s1).m.length ≤ 40 := m_len hOk.out
    have hcnt : cnt (seenT L k) (openM s1.m) ≤ 40 := Nat.le_trans (cnt_le _ _) (openM_len HO.out)
    clear hP hC hB HC5 HP5 HB5
    by_cases hlt : k < L.length
    · obtain ⟨x, hx⟩ : ∃ x, L[k]? = some x := ⟨_, List.getElem?_eq_getElem hlt⟩
      have HX := Lib.hid hx
      obtain ⟨b, c', he, hb3, hbl, hrg⟩ := HCk.out.at hx
      simp only [Value.slice.injEq, true_and] at he
      obtain ⟨rfl, rfl⟩ := he
      obtain ⟨c0, c1, c2, c3⟩ := range4 hrg
      have HD : Hid (x ∈ dueS s1 h) := Lib.hid (by rw [← HL.out]; exact List.mem_of_getElem? hx)
      have HCo := Lib.hid (due_cok HO.out (by omega) HD.out)
      have HSn := Lib.hid (seen_succ hx)
      have HPr : Hid (x.town ∈ seenT L k ↔ ∃ b, 0 < k ∧ L[k - 1]? = some b ∧ b.town = x.town) := Lib.hid (seen_prev (by rw [HL.out]; exact due_rising HO.out h) hx)
      clear hx hrg
      by_cases hseen : x.town ∈ seenT L k
      · obtain ⟨y, hk0, hy, hyx⟩ := HPr.out.1 hseen
        have e0 := (range4 (HCk.out.at2 hy)).1
        rw [hyx] at e0
        have HA := Lib.hid (ack_seen (s := s1) hseen)
        have HSe := Lib.hid hseen
        clear hy hyx hseen HPr
        have hg : decide (0 < (k : Int)) = true := decide_eq_true (by omega)
        have q1 : IntKind.i64.wrap ((k : Int) - 1) = (k : Int) - 1 := IntWalk.i64_in _ (by omega)
        have q2 : 0 ≤ (k : Int) - 1 := by omega
        have q2' : 1 ≤ (k : Int) := by omega
        have q4 : (k : Int) - 1 < L.length := by omega
        have q3 : ((k : Int) - 1).toNat = k - 1 := by omega
        go_wp2_with fail
        go_quiet (fail)
        clear q1 q2 q2' q3 q4 hg e0
        have HPd := Lib.hid (HPk.out.drewN nq)
        have HBd := Lib.hid (show Below W.heap.size W (wr.drewN nq) from below_drewN HBk.out)
        have HCd := Lib.hid (HCk.out.drewN nq)
        clear HPk HBk HCk
        go_wp2_with fail
        refine (ack_any pb mb _ x _ HPd.out HCo.out (by omega)).mono ?_
        rintro e w6 ⟨rfl, hP, hv⟩
        rw [HA.out] at hP ⊢
        have HP6 := Lib.hid hP
        have HB6 := Lib.hid (hv.below HBd.out hpb hWs HBd.out.size)
        have HC6 := Lib.hid (HCd.out.mv hv hB3' hB3)
        clear hP hv c0 c1 c2 c3
        go_wp2_with fail
        go_roundw
        case rel =>
          have h1 : MS (seenT L (k + 1)) s1 = MS (seenT L k) s1 := by rw [HSn.out]; exact ms_again HSe.out _
          have h2 : cnt (seenT L (k + 1)) (openM s1.m) = cnt (seenT L k) (openM s1.m) := by rw [HSn.out]; exact cnt_again HSe.out _
          exact ⟨k + 1, by omega, by go_num, by rw [h2], rfl, by rw [h1]; exact HP6.out, HC6.out, HB6.out⟩
        case measure => simp [intOf]; omega
      · have HA0 := Lib.hid (awaits_due (S := seenT L k) HO.out HD.out hseen)
        have HA1 := Lib.hid (ack_due (S := seenT L k) HO.out HD.out hseen)
        have HA2 := Lib.hid (awaits_after (s := s1) (seenT L k) x)
        have HN2 := Lib.hid (cnt_openM_new (S := seenT L k) HO.out HD.out hseen)
        have HMo := Lib.hid (ms_ok HO.out (seenT L k ++ [x.town]))
        have hlm2 : (MS (seenT L k ++ [x.town]) s1).m.length ≤ 40 := m_len HMo.out
        have q5 : IntKind.i64.wrap ((cnt (seenT L k) (openM s1.m) : Int) + 1) = (cnt (seenT L k) (openM s1.m) : Int) + 1 := IntWalk.i64_in _ (by omega)
        have HQ5 := Lib.hid q5
        clear q5
        by_cases hk0 : 0 < k
        · obtain ⟨y, hy⟩ : ∃ y, L[k - 1]? = some y := ⟨_, List.getElem?_eq_getElem (by omega)⟩
          have hne : (y.town == x.town) = false := by
            rw [beq_eq_false_iff_ne]
            exact fun e => hseen (HPr.out.2 ⟨y, hk0, hy, e⟩)
          have e0 := (range4 (HCk.out.at2 hy)).1
          clear hy hseen HPr
          have hg : decide (0 < (k : Int)) = true := decide_eq_true (by omega)
          have q1 : IntKind.i64.wrap ((k : Int) - 1) = (k : Int) - 1 := IntWalk.i64_in _ (by omega)
          have q2 : 0 ≤ (k : Int) - 1 := by omega
          have q2' : 1 ≤ (k : Int) := by omega
          have q4 : (k : Int) - 1 < L.length := by omega
          have q3 : ((k : Int) - 1).toNat = k - 1 := by omega
          go_wp2_with fail
          go_quiet (fail)
          clear q1 q2 q2' q3 q4 hg e0 hne
          have HPd := Lib.hid (HPk.out.drewN nq)
          have HBd := Lib.hid (show Below W.heap.size W (wr.drewN nq) from below_drewN HBk.out)
          have HCd := Lib.hid (HCk.out.drewN nq)
          clear HPk HBk HCk
          go_wp2_with fail
          refine (awaits_any pb mb _ x _ HPd.out HCo.out).mono ?_
          rintro e w6 ⟨rfl, hb⟩
          rw [HA0.out]
          have HP6 := Lib.hid (HPd.out.below hb)
          have HB6 := Lib.hid (HBd.out.trans (hb.mono HBd.out.size))
          have HC6 := Lib.hid (HCd.out.below hb)
          clear hb HPd HBd HCd c0 c1 c2 c3
          obtain ⟨c0, c1, c2, c3⟩ := range4 (HC6.out.at2 HX.out)
          go_wp2_with fail
          refine (ack_any pb mb _ x _ HP6.out HCo.out (by omega)).mono ?_
          rintro e w7 ⟨rfl, hP, hv⟩
          rw [HA1.out] at hP ⊢
          have HP7 := Lib.hid hP
          have HB7 := Lib.hid (hv.below HB6.out hpb hWs HB6.out.size)
          have HC7 := Lib.hid (HC6.out.mv hv hB3' hB3)
          clear hP hv c0 c1 c2 c3 HP6 HB6 HC6
          obtain ⟨c0, c1, c2, c3⟩ := range4 (HC7.out.at2 HX.out)
          go_wp2_with fail
          refine (awaits_any pb mb _ x _ HP7.out HCo.out).mono ?_
          rintro e w8 ⟨rfl, hb⟩
          rw [HA2.out]
          have HP8 := Lib.hid (HP7.out.below hb)
          have HB8 := Lib.hid (HB7.out.trans (hb.mono HB7.out.size))
          have HC8 := Lib.hid (HC7.out.below hb)
          clear hb HP7 HB7 HC7 c0 c1 c2 c3
          go_wp2_with fail
          go_roundw
          case rel => exact ⟨k + 1, by omega, by go_num, by rw [HSn.out, HN2.out]; go_num, rfl, by rw [HSn.out]; exact HP8.out, HC8.out, HB8.out⟩
          case measure => simp [intOf]; omega
        · have hg : decide (0 < (k : Int)) = false := decide_eq_false (by omega)
          go_wp2_with fail
          go_quiet (fail)
          clear hg hseen HPr
          have HPd := Lib.hid (HPk.out.drewN nq)
          have HBd := Lib.hid (show Below W.heap.size W (wr.drewN nq) from below_drewN HBk.out)
          have HCd := Lib.hid (HCk.out.drewN nq)
          clear HPk HBk HCk
          go_wp2_with fail
          refine (awaits_any pb mb _ x _ HPd.out HCo.out).mono ?_
          rintro e w6 ⟨rfl, hb⟩
          rw [HA0.out]
          have HP6 := Lib.hid (HPd.out.below hb)
          have HB6 := Lib.hid (HBd.out.trans (hb.mono HBd.out.size))
          have HC6 := Lib.hid (HCd.out.below hb)
          clear hb HPd HBd HCd c0 c1 c2 c3
          obtain ⟨c0, c1, c2, c3⟩ := range4 (HC6.out.at2 HX.out)
          go_wp2_with fail
          refine (ack_any pb mb _ x _ HP6.out HCo.out (by omega)).mono ?_
          rintro e w7 ⟨rfl, hP, hv⟩
          rw [HA1.out] at hP ⊢
          have HP7 := Lib.hid hP
          have HB7 := Lib.hid (hv.below HB6.out hpb hWs HB6.out.size)
          have HC7 := Lib.hid (HC6.out.mv hv hB3' hB3)
          clear hP hv c0 c1 c2 c3 HP6 HB6 HC6
          obtain ⟨c0, c1, c2, c3⟩ := range4 (HC7.out.at2 HX.out)
          go_wp2_with fail
          refine (awaits_any pb mb _ x _ HP7.out HCo.out).mono ?_
          rintro e w8 ⟨rfl, hb⟩
          rw [HA2.out]
          have HP8 := Lib.hid (HP7.out.below hb)
          have HB8 := Lib.hid (HB7.out.trans (hb.mono HB7.out.size))
          have HC8 := Lib.hid (HC7.out.below hb)
          clear hb HP7 HB7 HC7 c0 c1 c2 c3
          go_wp2_with fail
          go_roundw
          case rel => exact ⟨k + 1, by omega, by go_num, by rw [HSn.out, HN2.out]; go_num, rfl, by rw [HSn.out]; exact HP8.out, HC8.out, HB8.out⟩
          case measure => simp [intOf]; omega
    · have hkl : k = L.length := by omega
      subst hkl
      have hdn := due_none HO.out h
      rw [← HL.out] at hdn
      have HDn : Hid (dueS (MS (seenT L L.length) s1) h = []) := Lib.hid hdn
      have HOp := Lib.hid (open_after s1 (seenT L L.length))
      clear hdn
      go_wp2_with fail
      refine (due_any pb mb _ h _ HPk.out hOk.out hh).mono ?_
      rintro e w6 ⟨v3, rfl, hown, hb⟩
      rw [HDn.out] at hown
      obtain ⟨a3, d3, rfl⟩ := (CFrom.of_owns hown).slice
      have HP6 := Lib.hid (HPk.out.below hb)
      have HB6 := Lib.hid (HBk.out.trans (hb.mono HBk.out.size))
      clear hown hb
      go_wp2_with fail
      refine (open_any pb mb _ _ HP6.out hOk.out).mono ?_
      rintro e w7 ⟨v4, rfl, hown, hb⟩
      obtain ⟨a4, d4, rfl, _⟩ := IArg.of_owns hown
      have HB7 := Lib.hid (HB6.out.trans (hb.mono HB6.out.size))
      have h5 : ((openS (MS (seenT L L.length) s1)).length : Int) = IntKind.i64.wrap (((openS s1).length : Int) - (cnt (seenT L L.length) (openM s1.m) : Int)) := by
        rw [HOp.out]
        exact (IntWalk.i64_in _ (by omega)).symm
      have h6 : (((openS (MS (seenT L L.length) s1)).length : Int) == ((openS s1).length : Int) - (cnt (seenT L L.length) (openM s1.m) : Int)) = true := by
        rw [beq_iff_eq]
        exact HOp.out
      clear hown hb h5
      go_wp2_with fail
      go_ret
      exact ⟨rfl, HB7.out⟩
end Go.Proofs.Ythijckdablkofaa
