/- bournelaw44.WardenAlarms returns true for all towns, numbers of wardens and sights. -/
import Derived.Test.YthijckdablkofaaDAlarm
namespace Go.Proofs.Ythijckdablkofaa
open Go.RowKit
/-- the post's state: an order for town 5, or none yet -/
def SA (m : Nat) (rd : Bool) (r : Nat) (lv sn : Int) : WS := if rd then ⟨m, r, [(5, ⟨lv, r, sn, false⟩)]⟩ else newS m
theorem sa_false (m r : Nat) (lv sn : Int) : SA m false r lv sn = newS m := rfl
theorem sa_true (m r : Nat) (lv sn : Int) : SA m true r lv sn = ⟨m, r, [(5, ⟨lv, r, sn, false⟩)]⟩ := rfl
theorem sa_raise {m r : Nat} {rd : Bool} {lv sn lv' k : Int} (hok : okRaise 5 lv' k) : raiseS (SA m rd r lv sn) 5 lv' k = (((SA m rd r lv sn).r : Int) + 1, SA m true ((SA m rd r lv sn).r + 1) lv' k) := by
  unfold raiseS
  rw [if_pos hok, sa_true]
  cases rd with
  | false =>
    rw [sa_false]
    unfold newS
    simp only
    rw [put_empty]
    rfl
  | true =>
    rw [sa_true]
    simp only
    rw [put_single]
    rfl
theorem sa_r {m r k : Nat} {rd : Bool} {lv sn : Int} (h : r ≤ k) : (SA m rd r lv sn).r ≤ k := by
  cases rd with
  | false => exact Nat.zero_le _
  | true => exact h
theorem sa_len {m r : Nat} {rd : Bool} {lv sn : Int} : (SA m rd r lv sn).m.length ≤ 1 := by
  cases rd with
  | false => exact Nat.zero_le _
  | true => exact Nat.le_refl _
theorem sa_ok {m r : Nat} {rd : Bool} {lv sn : Int} (h1 : 1 ≤ m) (h2 : m ≤ 16) (hl : 0 ≤ lv ∧ lv ≤ 3) (hs : 0 ≤ sn ∧ sn ≤ 16777216) (hr : rd = true → 1 ≤ r) : WOk (SA m rd r lv sn) := by
  cases rd with
  | false => exact newS_ok h1 h2
  | true =>
    rw [sa_true]
    refine ⟨h1, h2, List.pairwise_singleton _ _, fun p hp => ?_⟩
    have := hr rfl
    rw [List.mem_singleton.1 hp]
    simp only
    omega
theorem sa_due {m r : Nat} {lv sn k : Int} (h0 : 0 ≤ sn) (h : sn ≤ k) : ((dueS (SA m true r lv sn) k).length : Int) = min (m : Int) (1 + (k - sn) / 3) ∧ ∀ (g : Nat) (c : CV), (dueS (SA m true r lv sn) k)[g]? = some c → c = ⟨5, lv, r, g⟩ := by
  rw [sa_true, due_single _ _ _ _ rfl]
  refine ⟨?_, fun g c hg => dueOne_get hg⟩
  rw [dueOne_count _ _ _ h0, if_pos h]
theorem aRow_get : ∀ (l : List AV) (k : Nat) (x : AV), l[k]? = some x → ∀ j v, (aCl x)[j]? = some v → (aRow l)[k * 3 + j]? = some v
  | [], k, x, h, j, v, hj => by simp at h
  | y :: l, 0, x, h, j, v, hj => by
    simp only [List.getElem?_cons_zero, Option.some.injEq] at h
    subst h
    have e : aRow (y :: l) = aCl y ++ aRow l := by simp [aRow]
    rw [e, Nat.zero_mul, Nat.zero_add, List.getElem?_append_left]
    · exact hj
    · exact (List.getElem?_eq_some_iff.1 hj).1
  | y :: l, k + 1, x, h, j, v, hj => by
    simp only [List.getElem?_cons_succ] at h
    have e : aRow (y :: l) = aCl y ++ aRow l := by simp [aRow]
    have h3 : (aCl y).length = 3 := rfl
    rw [e, List.getElem?_append_right (by omega), h3, show (k + 1) * 3 + j - 3 = k * 3 + j by omega]
    exact aRow_get l k x h j v hj
/-- v is a slice of the alarms l, in a block from B on -/
def AFrom (B : Nat) (v : Value) (l : List AV) (w : World) : Prop :=
  ∃ a c, v = .slice a l.length c ∧ ∀ j x, l[j]? = some x → ∃ b, a = some ⟨b, 0, none⟩ ∧ B ≤ b ∧ b < w.heap.size ∧ w.rangeAt b (j * 3) (aCl x)
theorem AFrom.of_owns {w : World} {base : Nat} {v : Value} {l : List AV} (h : w.ownsRow base 51 3 v l.length (aRow l)) : AFrom base v l w := by
  rcases h.2 with ⟨rfl, h0⟩ | ⟨g, cap, cur, rfl, hb, hg, h1, h2, h3, h4⟩
  · exact ⟨none, 0, by rw [h0], fun j x hj => by
      have := (List.getElem?_eq_some_iff.1 hj).1
      omega⟩
  · refine ⟨some ⟨g, 0, none⟩, cap, rfl, fun j x hj => ⟨g, rfl, hb, (Array.getElem?_eq_some_iff.1 hg).1, fun i u hi => ?_⟩⟩
    have hh := h.cells (g := g) rfl (j * 3 + i) u (aRow_get l j x hj i u hi)
    rw [Addr.add_mid, Nat.zero_add] at hh
    exact hh
theorem AFrom.mv {B pb mb : Nat} {v : Value} {l : List AV} {w w' : World} (h : AFrom B v l w) (hv : Mv pb mb w w') (h1 : pb < B) (h2 : mb < B) : AFrom B v l w' := by
  obtain ⟨a, c, rfl, hc⟩ := h
  refine ⟨a, c, rfl, fun j x hj => ?_⟩
  obtain ⟨b, e1, e2, e3, e4⟩ := hc j x hj
  refine ⟨b, e1, e2, Nat.lt_of_lt_of_le e3 hv.size, fun i u hi => ?_⟩
  have hb := hv.block b e3 (by omega) (by omega)
  exact (World.cell?_of_block (a := ⟨b, j * 3 + i, none⟩) hb).trans (e4 i u hi)
theorem AFrom.below {B : Nat} {v : Value} {l : List AV} {w w' : World} (h : AFrom B v l w) (hb : Below w.heap.size w w') : AFrom B v l w' := by
  obtain ⟨a, c, rfl, hc⟩ := h
  refine ⟨a, c, rfl, fun j x hj => ?_⟩
  obtain ⟨b, e1, e2, e3, e4⟩ := hc j x hj
  exact ⟨b, e1, e2, Nat.lt_of_lt_of_le e3 hb.size, fun i u hi => (hb.cell (p := ⟨b, j * 3 + i, none⟩) e3).trans (e4 i u hi)⟩
theorem AFrom.drewN {w : World} {B : Nat} {v : Value} {l : List AV} (h : AFrom B v l w) (n : Nat) : AFrom B v l (w.drewN n) := h
theorem AFrom.at {B : Nat} {l : List AV} {a : Option Addr} {n c : Nat} {w : World} (h : AFrom B (.slice a n c) l w) {k : Nat} {x : AV} (hx : l[k]? = some x) :
    ∃ b, a = some ⟨b, 0, none⟩ ∧ w.rangeAt b (k * 3) (aCl x) := by
  obtain ⟨a', c', he, h⟩ := h
  simp only [Value.slice.injEq] at he
  obtain ⟨b, h1, _, _, h4⟩ := h k x hx
  exact ⟨b, he.1.trans h1, h4⟩
theorem range3 {w : World} {b o : Nat} {x : AV} (h : w.rangeAt b o (aCl x)) : w.cell? ⟨b, o, none⟩ = some (.int .i64 x.level) ∧ w.cell? ⟨b, o + 1, none⟩ = some (.int .i64 x.calm) ∧ w.cell? ⟨b, o + 2, none⟩ = some (.int .i64 x.after) :=
  ⟨h 0 _ rfl, h 1 _ rfl, h 2 _ rfl⟩
set_option maxRecDepth 100000 in
set_option maxHeartbeats 16000000 in
theorem alarms_core (x : TownV) (cs : List Value) (n : Int) (v : Value) (l : List SightV) (W : World) (hT : RTown x cs W) (hn : I64 n) (hS : LArg RSight 2 v l W) :
    Calls Try.prog 7 #[.agg cs.toArray, .int .i64 n, v] W fun e w' => e = .returned (.bool true) ∧ Below W.heap.size W w' := by
  obtain ⟨rfl, hx1, hx2, hx3, hx4, hx5, hx6, hx7⟩ := hT
  change Calls Try.prog 7 #[.agg #[.string x.name, .int .i64 x.place, .int .i64 x.flood, .int .i64 x.lead, .int .i64 x.people, .int .i64 x.watch, .int .i64 x.quorum], .int .i64 n, v] W _
  unfold I64 at hn
  have HS := Lib.hid hS
  obtain ⟨a, c, rfl, hlc, hcm⟩ := hS.slice
  have hlm : (l.length : Int) ≤ 9223372036854775807 := by unfold maxLen at hcm; omega
  clear hS hx1 hx2 hx3 hx5 hx6 hx7 hlc hcm
  have hBT := (Below.refl W.heap.size W).alloc (Nat.le_refl _) (.cells #[.string x.name, .int .i64 x.place, .int .i64 x.flood, .int .i64 x.lead, .int .i64 x.people, .int .i64 x.watch, .int .i64 x.quorum] 46)
  have HBT := Lib.hid hBT
  have HRT := Lib.hid (heap_alloc_new W (.cells #[.string x.name, .int .i64 x.place, .int .i64 x.flood, .int .i64 x.lead, .int .i64 x.people, .int .i64 x.watch, .int .i64 x.quorum] 46))
  clear hBT
  by_cases hbad : n < 1 ∨ 16 < n
  · have HBad := Lib.hid hbad
    clear hbad
    go_enter Try.func7, Try.ntmps7
    go_wp2_with fail
    refine (small_any _).mono ?_
    rintro e w1 ⟨rfl, hb⟩
    have HB := Lib.hid (HBT.out.trans (hb.mono HBT.out.size))
    clear hb
    go_wp2_with fail
    refine (new_none n HBad.out _).mono ?_
    rintro e w2 ⟨rfl, rfl⟩
    go_wp2_with fail
    go_ret
    exact ⟨rfl, HB.out⟩
  obtain ⟨m, rfl⟩ : ∃ m : Nat, n = m := ⟨n.toNat, by omega⟩
  have hm1 : 1 ≤ m := by omega
  have hm2 : m ≤ 16 := by omega
  clear hbad hn
  by_cases hl : 40 < l.length
  · go_enter Try.func7, Try.ntmps7
    go_wp2_with fail
    refine (small_any _).mono ?_
    rintro e w1 ⟨rfl, hb⟩
    have HB := Lib.hid (HBT.out.trans (hb.mono HBT.out.size))
    clear hb
    go_wp2_with fail
    refine (new_any m hm1 hm2 _).mono ?_
    rintro e w2 ⟨rfl, _, hb⟩
    have HB2 := Lib.hid (HB.out.trans (hb.mono HB.out.size))
    clear hb
    go_wp2_with fail
    go_ret
    exact ⟨rfl, HB2.out⟩
  go_enter Try.func7, Try.ntmps7
  go_wp2_with fail
  refine (small_any _).mono ?_
  rintro e w1 ⟨rfl, hb⟩
  have HB := Lib.hid (HBT.out.trans (hb.mono HBT.out.size))
  have HR1 := Lib.hid (blk_below HRT.out hb (blk_lt HRT.out))
  have hTb := blk_lt HR1.out
  clear hb HBT HRT
  go_wp2_with fail
  refine (new_any m hm1 hm2 _).mono ?_
  rintro e w2 ⟨rfl, hP, hb⟩
  have HB2 := Lib.hid (HB.out.trans (hb.mono HB.out.size))
  have HR2 := Lib.hid (blk_below HR1.out hb (blk_lt HR1.out))
  have HP2 := Lib.hid hP
  have hlt2 := hP.lt
  clear hb hP HR1
  generalize w1.heap.size = mb at *
  have hWm : W.heap.size < mb := hTb
  have hWp : W.heap.size < mb + 1 := by omega
  generalize mb + 1 = pb at *
  obtain ⟨t0, t1, t2, t3, t4, t5, t6⟩ := row7 HR2.out
  have HS2 := Lib.hid (HS.out.below stays_Sight HB2.out)
  go_wp2_with fail
  refine (alarm_any x.name x.place x.flood x.lead x.people x.watch x.quorum _ l _ hx4 HS2.out (by omega)).mono ?_
  rintro e w3 ⟨u, ls, hll, hls, rfl, hown, hb⟩
  have HAF := Lib.hid (AFrom.of_owns hown)
  have HLS := Lib.hid hls
  have HP3 := Lib.hid (HP2.out.below hb)
  have HB3 := Lib.hid (HB2.out.trans (hb.mono HB2.out.size))
  obtain ⟨a3, d3, rfl, _⟩ := HAF.out
  have hp3 : pb < w2.heap.size := hlt2.1
  have hm3 : mb < w2.heap.size := hlt2.2
  have hl40 : ls.length ≤ 40 := by omega
  have HLL := Lib.hid hll
  clear hlt2 hown hb t0 t1 t2 t3 t4 t5 t6 HR2 HP2 hls hll hTb
  generalize w2.heap.size = B2 at *
  go_wp2_with fail
  go_loopw [10, 11, 12, 13] (fun lvv rdv snv i wr => ∃ (k r sn : Nat) (lv : Int) (rd : Bool), k ≤ ls.length ∧ i = .int .i64 k ∧ lvv = .int .i64 lv ∧ rdv = .bool rd ∧ snv = .int .i64 sn ∧ sn ≤ k ∧ r ≤ k ∧ 0 ≤ lv ∧ lv ≤ 3 ∧ (rd = true → 1 ≤ r) ∧ (rd = false → lv = 0) ∧ PAt wr pb mb (SA m rd r lv sn) ∧ AFrom B2 (.slice a3 ls.length d3) ls wr ∧ Below W.heap.size W wr) (fun _ _ _ i _ => ls.length - (intOf i).toNat)
  case atStart => exact ⟨0, 0, 0, 0, false, Nat.zero_le _, rfl, rfl, rfl, rfl, by omega, by omega, by omega, by omega, (by simp), (by simp), HP3.out, HAF.out, HB3.out⟩
  case round =>
    obtain ⟨k, r, sn, lv, rd, hk, rfl, rfl, rfl, rfl, hsn, hr, hlv0, hlv3, hrd1, hrd0, hP, hA, hB⟩ := hrel
    have HPk := Lib.hid hP
    have HAk := Lib.hid hA
    have HBk := Lib.hid hB
    have HRD1 := Lib.hid hrd1
    have HRD0 := Lib.hid hrd0
    have hsr := sa_r (m := m) (rd := rd) (lv := lv) (sn := sn) hr
    have hsl := sa_len (m := m) (r := r) (rd := rd) (lv := lv) (sn := sn)
    clear hP hA hB HP3 HAF HB3 hrd1 hrd0
    by_cases hlt : k < ls.length
    · obtain ⟨y, hy⟩ : ∃ y, ls[k]? = some y := ⟨_, List.getElem?_eq_getElem hlt⟩
      obtain ⟨b, ha, hrg⟩ := HAk.out.at hy
      subst ha
      have c0 := (range3 hrg).1
      have hyk := HLS.out y (List.mem_of_getElem? hy)
      have hy0 : 0 ≤ y.level := hyk.1
      have hy3 : y.level ≤ 3 := hyk.2.1
      have HY := Lib.hid hy
      clear hy hrg hyk
      by_cases hne : y.level = lv
      · have T1 : (y.level != lv) = false := by rw [hne]; simp
        have HNE := Lib.hid hne
        clear hne
        cases rd with
        | false =>
          go_wp2_with fail
          refine (due_any pb mb _ (k : Int) _ HPk.out (newS_ok hm1 hm2) (by unfold I64; omega)).mono ?_
          rintro e w6 ⟨v1, rfl, hown, hb⟩
          rw [sa_false, show dueS (newS m) (k : Int) = [] from rfl] at hown
          obtain ⟨a6, d6, rfl⟩ := (CFrom.of_owns (l := []) hown).slice
          have HP6 := Lib.hid (HPk.out.below hb)
          have HA6 := Lib.hid (HAk.out.below hb)
          have HB6 := Lib.hid (HBk.out.trans (hb.mono HBk.out.size))
          clear hown hb
          go_wp2_with fail
          go_roundw
          case rel => exact ⟨k + 1, r, sn, lv, false, by omega, by go_num, rfl, rfl, rfl, by omega, by omega, hlv0, hlv3, (by simp), (fun _ => HRD0.out trivial), HP6.out, HA6.out, HB6.out⟩
          case measure => simp [intOf]; omega
        | true =>
          have hr1 : 1 ≤ r := HRD1.out (by first | rfl | trivial)
          obtain rfl : y.level = lv := HNE.out
          have HPn := HPk
          have HAn := HAk
          have HBn := HBk
          have hrk : r ≤ k + 1 := by omega
          clear HPk HAk HBk HNE HRD0 HRD1 hsr hsl hr
          go_wp2_with fail
          refine (due_any pb mb _ (k : Int) _ HPn.out (sa_ok hm1 hm2 ⟨hy0, hy3⟩ ⟨by omega, by omega⟩ (fun _ => hr1)) (by unfold I64; omega)).mono ?_
          rintro e w6 ⟨v1, rfl, hown, hb⟩
          have hd := sa_due (m := m) (r := r) (lv := y.level) (sn := (sn : Int)) (k := (k : Int)) (by omega) (by omega)
          obtain ⟨L, hL⟩ : ∃ L, L = dueS (SA m true r y.level (sn : Int)) (k : Int) := ⟨_, rfl⟩
          rw [← hL] at hown hd
          have HLen := Lib.hid hd.1
          have HEl := Lib.hid hd.2
          have hLl : L.length ≤ 16 := by have := hd.1; omega
          obtain ⟨a6, d6, rfl⟩ := (CFrom.of_owns hown).slice
          have HC6 := Lib.hid (CFrom.of_owns hown)
          have HP6 := Lib.hid (HPn.out.below hb)
          have HA6 := Lib.hid (HAn.out.below hb)
          have HB6 := Lib.hid (HBn.out.trans (hb.mono HBn.out.size))
          have q3 : IntKind.i64.wrap ((k : Int) - (sn : Int)) = (k : Int) - (sn : Int) := IntWalk.i64_in _ (by omega)
          have T2 : ((L.length : Int) != min (m : Int) (1 + ((k : Int) - (sn : Int)) / 3)) = false := by rw [HLen.out]; simp
          clear hown hb hd hL HPn HAn HBn c0
          go_wp2_with fail
          clear T2 q3
          generalize wr.heap.size = B6 at *
          go_loopw [15] (fun i wx => ∃ g : Nat, g ≤ L.length ∧ i = .int .i64 g ∧ CFrom B6 (.slice a6 L.length d6) L wx ∧ PAt wx pb mb (SA m true r y.level (sn : Int)) ∧ AFrom B2 (.slice (some ⟨b, 0, none⟩) ls.length d3) ls wx ∧ Below W.heap.size W wx) (fun i _ => L.length - (intOf i).toNat)
          case atStart => exact ⟨0, Nat.zero_le _, rfl, HC6.out, HP6.out, HA6.out, HB6.out⟩
          case round =>
            obtain ⟨g, hg, rfl, hC, hP, hA, hB⟩ := hrel
            have HCg := Lib.hid hC
            have HPg := Lib.hid hP
            have HAg := Lib.hid hA
            have HBg := Lib.hid hB
            clear hC hP hA hB HC6 HP6 HA6 HB6
            by_cases hgl : g < L.length
            · obtain ⟨z, hz⟩ : ∃ z, L[g]? = some z := ⟨_, List.getElem?_eq_getElem hgl⟩
              have hze := HEl.out g z hz
              subst hze
              obtain ⟨b7, c7, he, _, _, hrg⟩ := HCg.out.at hz
              simp only [Value.slice.injEq, true_and] at he
              obtain ⟨rfl, rfl⟩ := he
              obtain ⟨z0, z1, z2, z3⟩ := range4 hrg
              obtain ⟨b8, hb8, hrg2⟩ := HAg.out.at HY.out
              simp only [Option.some.injEq, Addr.mk.injEq, and_true] at hb8
              subst hb8
              have c0 := (range3 hrg2).1
              have T3 : (y.level != y.level) = false := by simp
              have T4 : ((g : Int) != (g : Int)) = false := by simp
              clear hz hrg hrg2
              go_wp2_with fail
              go_quiet (fail)
              go_wp2_with fail
              go_roundw
              case rel => exact ⟨g + 1, by omega, by go_num, HCg.out.drewN nq, HPg.out.drewN nq, HAg.out.drewN nq, below_drewN HBg.out⟩
              case measure => simp [intOf]; omega
            · obtain rfl : g = L.length := by omega
              go_wp2_with fail
              go_roundw
              case rel => exact ⟨k + 1, r, sn, y.level, true, by omega, by go_num, rfl, rfl, rfl, by omega, by omega, hy0, hy3, (fun _ => hr1), (by simp), HPg.out, HAg.out, HBg.out⟩
              case measure => simp [intOf]; omega
      · have T1 : (y.level != lv) = true := by rw [bne_iff_ne]; exact hne
        have HOK : Hid (okRaise 5 y.level (k : Int)) := Lib.hid (by unfold okRaise; omega)
        have HSR := Lib.hid (sa_raise (m := m) (r := r) (rd := rd) (lv := lv) (sn := sn) HOK.out)
        clear hne
        go_wp2_with fail
        refine (raise_any pb mb _ 5 y.level (k : Int) _ HPk.out (by omega) (by omega)).mono ?_
        rintro e w5 ⟨rfl, hP, hv⟩
        rw [HSR.out] at hP ⊢
        have HPn := Lib.hid hP
        have HAn := Lib.hid (HAk.out.mv hv hp3 hm3)
        have HBn := Lib.hid (hv.below HBk.out (by omega) (by omega) HBk.out.size)
        obtain ⟨rn, hrn⟩ : ∃ rn, rn = (SA m rd r lv (sn : Int)).r + 1 := ⟨_, rfl⟩
        have hz : (((SA m rd r lv (sn : Int)).r : Int) + 1 == 0) = false := by rw [beq_eq_false_iff_ne]; omega
        dsimp only at HPn
        rw [← hrn] at HPn
        have hr1 : 1 ≤ rn := by omega
        have hrk : rn ≤ k + 1 := by omega
        obtain ⟨b8, hb8, hrg⟩ := HAn.out.at HY.out
        simp only [Option.some.injEq, Addr.mk.injEq, and_true] at hb8
        subst hb8
        clear c0
        have c0 := (range3 hrg).1
        have hsn' : k ≤ k := Nat.le_refl _
        clear hP hv hrg HPk HAk HBk hrn HRD0 HRD1 HSR hsr hsl hr hsn hlv0 hlv3
        go_wp2_with fail
        refine (due_any pb mb _ (k : Int) _ HPn.out (sa_ok hm1 hm2 ⟨hy0, hy3⟩ ⟨by omega, by omega⟩ (fun _ => hr1)) (by unfold I64; omega)).mono ?_
        rintro e w6 ⟨v1, rfl, hown, hb⟩
        have hd := sa_due (m := m) (r := rn) (lv := y.level) (sn := (k : Int)) (k := (k : Int)) (by omega) (by omega)
        obtain ⟨L, hL⟩ : ∃ L, L = dueS (SA m true rn y.level (k : Int)) (k : Int) := ⟨_, rfl⟩
        rw [← hL] at hown hd
        have HLen := Lib.hid hd.1
        have HEl := Lib.hid hd.2
        have hLl : L.length ≤ 16 := by have := hd.1; omega
        obtain ⟨a6, d6, rfl⟩ := (CFrom.of_owns hown).slice
        have HC6 := Lib.hid (CFrom.of_owns hown)
        have HP6 := Lib.hid (HPn.out.below hb)
        have HA6 := Lib.hid (HAn.out.below hb)
        have HB6 := Lib.hid (HBn.out.trans (hb.mono HBn.out.size))
        have q3 : IntKind.i64.wrap ((k : Int) - (k : Int)) = (k : Int) - (k : Int) := IntWalk.i64_in _ (by omega)
        have T2 : ((L.length : Int) != min (m : Int) (1 + ((k : Int) - (k : Int)) / 3)) = false := by rw [HLen.out]; simp
        have T2b : ((L.length : Int) != min (m : Int) 1) = false := by have := HLen.out; rw [bne_eq_false_iff_eq]; omega
        clear hown hb hd hL HPn HAn HBn c0
        go_wp2_with fail
        clear T2 T2b q3
        generalize w5.heap.size = B6 at *
        go_loopw [15] (fun i wx => ∃ g : Nat, g ≤ L.length ∧ i = .int .i64 g ∧ CFrom B6 (.slice a6 L.length d6) L wx ∧ PAt wx pb mb (SA m true rn y.level (k : Int)) ∧ AFrom B2 (.slice (some ⟨b, 0, none⟩) ls.length d3) ls wx ∧ Below W.heap.size W wx) (fun i _ => L.length - (intOf i).toNat)
        case atStart => exact ⟨0, Nat.zero_le _, rfl, HC6.out, HP6.out, HA6.out, HB6.out⟩
        case round =>
          obtain ⟨g, hg, rfl, hC, hP, hA, hB⟩ := hrel
          have HCg := Lib.hid hC
          have HPg := Lib.hid hP
          have HAg := Lib.hid hA
          have HBg := Lib.hid hB
          clear hC hP hA hB HC6 HP6 HA6 HB6
          by_cases hgl : g < L.length
          · obtain ⟨z, hz⟩ : ∃ z, L[g]? = some z := ⟨_, List.getElem?_eq_getElem hgl⟩
            have hze := HEl.out g z hz
            subst hze
            obtain ⟨b7, c7, he, _, _, hrg⟩ := HCg.out.at hz
            simp only [Value.slice.injEq, true_and] at he
            obtain ⟨rfl, rfl⟩ := he
            obtain ⟨z0, z1, z2, z3⟩ := range4 hrg
            obtain ⟨b8, hb8, hrg2⟩ := HAg.out.at HY.out
            simp only [Option.some.injEq, Addr.mk.injEq, and_true] at hb8
            subst hb8
            have c0 := (range3 hrg2).1
            have T3 : (y.level != y.level) = false := by simp
            have T4 : ((g : Int) != (g : Int)) = false := by simp
            clear hz hrg hrg2
            go_wp2_with fail
            go_quiet (fail)
            go_wp2_with fail
            go_roundw
            case rel => exact ⟨g + 1, by omega, by go_num, HCg.out.drewN nq, HPg.out.drewN nq, HAg.out.drewN nq, below_drewN HBg.out⟩
            case measure => simp [intOf]; omega
          · obtain rfl : g = L.length := by omega
            go_wp2_with fail
            go_roundw
            case rel => exact ⟨k + 1, rn, k, y.level, true, by omega, by go_num, rfl, rfl, rfl, by omega, by omega, hy0, hy3, (fun _ => hr1), (by simp), HPg.out, HAg.out, HBg.out⟩
            case measure => simp [intOf]; omega
    · obtain rfl : k = ls.length := by omega
      have T1 : ((ls.length : Int) == (l.length : Int)) = true := by rw [beq_iff_eq]; have := HLL.out; omega
      go_wp2_with fail
      go_ret
      exact ⟨rfl, HBk.out⟩
end Go.Proofs.Ythijckdablkofaa
