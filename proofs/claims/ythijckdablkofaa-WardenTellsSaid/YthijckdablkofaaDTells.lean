/- bournelaw44.WardenTells returns true for all numbers of wardens and steps. -/
import Derived.Test.YthijckdablkofaaDRefD
namespace Go.Proofs.Ythijckdablkofaa
open Go.RowKit
theorem below_base {B : Nat} {w w' : World} {pb mb : Nat} {s : WS} (h : PAt w pb mb s) (hb : Below B w w') (h1 : pb < B) (h2 : mb < B) : PAt w' pb mb s :=
  ⟨(hb.block pb h1).trans h.row, by
    obtain ⟨es, clock, hm, h5⟩ := h.map
    exact ⟨es, clock, (hb.block mb h2).trans hm, h5⟩⟩
theorem CFrom.args {B : Nat} {v : Value} {l : List CV} {w : World} (h : CFrom B v l w) : CArgs v l w := by
  obtain ⟨a, c, e, h⟩ := h
  refine ⟨a, c, e, fun j x hj => ?_⟩
  obtain ⟨b, h1, h2, h3, h4⟩ := h j x hj
  exact ⟨b, h1, h3, h4⟩
/-- what holds after k steps -/
structure TInv (W : World) (pb mb qb base m k : Nat) (w : World) (s : WS) (q : RS) : Prop where
  pB : pb < base
  mB : mb < base
  p : PAt w pb mb s
  rq : QAt w qb base q
  ref : Ref s q
  okp : WOk s
  okq : ROk q
  n : s.n = m
  r : s.r ≤ k
  below : Below W.heap.size W w
  W0 : W.heap.size ≤ pb ∧ W.heap.size ≤ mb
section
variable {W w w' : World} {pb mb qb base m k : Nat} {s : WS} {q : RS}
theorem TInv.Wb (h : TInv W pb mb qb base m k w s q) : W.heap.size ≤ base := Nat.le_trans h.W0.1 (Nat.le_of_lt h.pB)
theorem TInv.below' (h : TInv W pb mb qb base m k w s q) (hb : Below w.heap.size w w') : TInv W pb mb qb base m k w' s q :=
  { h with p := h.p.below hb, rq := h.rq.below hb, below := h.below.trans (hb.mono h.below.size) }
theorem TInv.more (h : TInv W pb mb qb base m k w s q) : TInv W pb mb qb base m (k + 1) w s q := { h with r := Nat.le_succ_of_le h.r }
theorem TInv.ql (h : TInv W pb mb qb base m k w s q) : q.l.length ≤ k := by rw [← h.ref.r]; exact h.r
theorem TInv.qn (h : TInv W pb mb qb base m k w s q) : q.n ≤ 16 := h.okq.2.1
end
set_option maxRecDepth 100000 in
set_option maxHeartbeats 16000000 in
theorem tells_core (n : Int) (v : Value) (l : List SV) (W : World) (hn : I64 n) (hS : SArg v l W) (hlen : (l.length : Int) ≤ maxLen) :
    Calls Try.prog 3 #[.int .i64 n, v] W fun e w' => e = .returned (.bool true) ∧ Below W.heap.size W w' := by
  unfold I64 at hn
  unfold maxLen at hlen
  have HS := Lib.hid hS
  obtain ⟨a, c, rfl⟩ := hS.slice
  clear hS
  by_cases hbad : n < 1 ∨ 16 < n
  · have HBad := Lib.hid hbad
    clear hbad
    go_enter Try.func3, Try.ntmps3
    go_wp2_with fail
    refine (small_any _).mono ?_
    rintro e w1 ⟨rfl, hb⟩
    have HB := Lib.hid hb
    clear hb
    go_wp2_with fail
    refine (new_none n HBad.out _).mono ?_
    rintro e w2 ⟨rfl, rfl⟩
    go_wp2_with fail
    refine (rnew_none n HBad.out _).mono ?_
    rintro e w2 ⟨rfl, rfl⟩
    go_wp2_with fail
    go_ret
    exact ⟨rfl, HB.out⟩
  obtain ⟨m, rfl⟩ : ∃ m : Nat, n = m := ⟨n.toNat, by omega⟩
  have hm1 : 1 ≤ m := by omega
  have hm2 : m ≤ 16 := by omega
  clear hbad hn
  by_cases hl : 40 < l.length
  · go_enter Try.func3, Try.ntmps3
    go_wp2_with fail
    refine (small_any _).mono ?_
    rintro e w1 ⟨rfl, hb⟩
    have HB := Lib.hid hb
    clear hb
    go_wp2_with fail
    refine (new_any m hm1 hm2 _).mono ?_
    rintro e w2 ⟨rfl, _, hb⟩
    have HB2 := Lib.hid (HB.out.trans (hb.mono HB.out.size))
    clear hb
    go_wp2_with fail
    refine (rnew_any m hm1 hm2 _).mono ?_
    rintro e w3 ⟨rfl, _, hb⟩
    have HB3 := Lib.hid (HB2.out.trans (hb.mono HB2.out.size))
    clear hb
    go_wp2_with fail
    go_ret
    exact ⟨rfl, HB3.out⟩
  go_enter Try.func3, Try.ntmps3
  go_wp2_with fail
  refine (small_any _).mono ?_
  rintro e w1 ⟨rfl, hb⟩
  have HB := Lib.hid hb
  clear hb
  go_wp2_with fail
  refine (new_any m hm1 hm2 _).mono ?_
  rintro e w2 ⟨rfl, hP, hb⟩
  have HB2 := Lib.hid (HB.out.trans (hb.mono HB.out.size))
  have HP2 := Lib.hid hP
  have hlt2 := hP.lt
  have hWs : W.heap.size ≤ w1.heap.size := HB.out.size
  clear hb hP
  generalize w1.heap.size = mb at *
  have hpb : W.heap.size ≤ mb + 1 := by omega
  have hpm : mb < mb + 1 := Nat.lt_succ_self _
  generalize mb + 1 = pb at *
  go_wp2_with fail
  refine (rnew_any m hm1 hm2 _).mono ?_
  rintro e w3 ⟨rfl, hQ, hb⟩
  have HT3 : Hid (TInv W pb mb w2.heap.size w2.heap.size m 0 w3 (newS m) ⟨m, []⟩) := Lib.hid {
    pB := hlt2.1
    mB := hlt2.2
    p := HP2.out.below hb
    rq := hQ
    ref := ref_new m
    okp := newS_ok hm1 hm2
    okq := ⟨hm1, hm2, (fun x hx => by cases hx)⟩
    n := rfl
    r := Nat.le_refl _
    below := HB2.out.trans (hb.mono HB2.out.size)
    W0 := ⟨hpb, hWs⟩ }
  clear hb hQ HP2 HB HB2 hlt2
  obtain ⟨base, hbase⟩ : ∃ base, base = w2.heap.size := ⟨_, rfl⟩
  obtain ⟨qb, hqb⟩ : ∃ qb, qb = w2.heap.size := ⟨_, rfl⟩
  rw [show TInv W pb mb w2.heap.size w2.heap.size m 0 w3 (newS m) ⟨m, []⟩ = TInv W pb mb qb base m 0 w3 (newS m) ⟨m, []⟩ by rw [hbase, hqb]] at HT3
  rw [← hqb]
  clear hbase hqb hWs hpb hpm
  go_wp2_with fail
  go_loopw [8] (fun i wr => ∃ (k : Nat) (s : WS) (q : RS), k ≤ l.length ∧ i = .int .i64 k ∧ TInv W pb mb qb base m k wr s q) (fun i _ => l.length - (intOf i).toNat)
  case atStart => exact ⟨0, _, _, Nat.zero_le _, rfl, HT3.out⟩
  case round =>
    obtain ⟨k, s, q, hk, rfl, hT⟩ := hrel
    have HT := Lib.hid hT
    have hql := hT.ql
    have hqn := hT.qn
    have hsr := hT.r
    have hml := m_len hT.okp
    clear hT HT3
    by_cases hlt : k < l.length
    · obtain ⟨x, hx⟩ : ∃ x, l[k]? = some x := ⟨_, List.getElem?_eq_getElem hlt⟩
      obtain ⟨b, o, c', he, hbl, hrg, hok⟩ := HS.out.at HT.out.below hx
      simp only [Value.slice.injEq, true_and] at he
      obtain ⟨rfl, rfl⟩ := he
      have HOk := Lib.hid hok
      have hhr : I64 x.hour := hok.2.2.2.1
      obtain ⟨c0, c1, c2, c3, c4, c5, c6, c7⟩ := range8 hrg
      clear hx hrg hok
      obtain ⟨O, hO⟩ : ∃ O, O = (Obj.cells #[.int .i64 x.act, .int .i64 x.town, .int .i64 x.level, .int .i64 x.hour, .int .i64 x.call.town, .int .i64 x.call.level, .int .i64 x.call.number, .int .i64 x.call.warden] 31) := ⟨_, rfl⟩
      have HT5 := Lib.hid (HT.out.below' ((Below.refl wr.heap.size wr).alloc (Nat.le_refl _) O))
      have HX5 := Lib.hid (heap_alloc_new wr O)
      have hpo5 : base ≤ wr.heap.size := Nat.le_trans HT.out.rq.lo (Nat.le_of_lt HT.out.rq.lt)
      rw [hO] at HT5 HX5
      clear hO O
      have hwl : wr.heap.size < (wr.alloc (.cells #[.int .i64 x.act, .int .i64 x.town, .int .i64 x.level, .int .i64 x.hour, .int .i64 x.call.town, .int .i64 x.call.level, .int .i64 x.call.number, .int .i64 x.call.warden] 31)).heap.size := by simp
      by_cases h0 : bits .and .i64 x.act 3 = 0
      · have e0 : (bits .and .i64 x.act 3 == 0) = true := by first | (rw [h0]; rfl) | (rw [beq_eq_false_iff_ne]; exact h0) | (rw [h0]; rfl)
        go_wp2_with fail
        clear h0 e0
        clear c0 c1 c2 c3 c4 c5 c6 c7
        generalize wr.alloc (.cells #[.int .i64 x.act, .int .i64 x.town, .int .i64 x.level, .int .i64 x.hour, .int .i64 x.call.town, .int .i64 x.call.level, .int .i64 x.call.number, .int .i64 x.call.warden] 31) = w5 at *
        have hpm : pb < wr.heap.size ∧ mb < wr.heap.size := ⟨by have := HT5.out.pB; omega, by have := HT5.out.mB; omega⟩
        generalize wr.heap.size = po at *
        refine wp_region_noPanic ?_
        refine wp_region_held_drew (S := fun w' => w'.cell? ⟨po, 0, none⟩ = some (.int .i64 x.act) ∧ w'.cell? ⟨po, 1, none⟩ = some (.int .i64 x.town) ∧ w'.cell? ⟨po, 2, none⟩ = some (.int .i64 x.level) ∧ w'.cell? ⟨po, 3, none⟩ = some (.int .i64 x.hour) ∧ w'.cell? ⟨po, 4, none⟩ = some (.int .i64 x.call.town) ∧ w'.cell? ⟨po, 5, none⟩ = some (.int .i64 x.call.level) ∧ w'.cell? ⟨po, 6, none⟩ = some (.int .i64 x.call.number) ∧ w'.cell? ⟨po, 7, none⟩ = some (.int .i64 x.call.warden)) (by kernel_rfl) (row8 HX5.out) (fun hHeld => ?_)
        refine' wpAnyH_take (i := 0) (v := _) (by simp only [List.getElem?_toArray, List.getElem?_cons_zero]; exact rfl) (by kernel_rfl) (by kernel_rfl) (by kernel_rfl) (fun _ _ _ h => h) (Or.inl ⟨by rfl, ?y0x1⟩) hHeld ?r0x1
        case y0x1 => (intro w hSw; (try dsimp only at hSw); go_simp; try with_reducible rfl)
        try simp only [Act.put, List.setIfInBounds_toArray, List.set_cons_zero, List.set_cons_succ]
        refine' wpAnyH_take (i := 1) (v := _) (by simp only [List.getElem?_toArray, List.getElem?_cons_succ, List.getElem?_cons_zero]; exact rfl) (by kernel_rfl) (by kernel_rfl) (by kernel_rfl) (fun _ _ _ h => h) (Or.inl ⟨by rfl, ?y1x2⟩) hHeld ?r1x2
        case y1x2 => (intro w hSw; (try dsimp only at hSw); go_simp; try with_reducible rfl)
        try simp only [Act.put, List.setIfInBounds_toArray, List.set_cons_zero, List.set_cons_succ]
        refine' wpAnyH_take (i := 2) (v := _) (by simp only [List.getElem?_toArray, List.getElem?_cons_succ, List.getElem?_cons_zero]; exact rfl) (by kernel_rfl) (by kernel_rfl) (by kernel_rfl) (fun _ _ _ h => h) (Or.inl ⟨by rfl, ?y2x3⟩) hHeld ?r2x3
        case y2x3 => (intro w hSw; (try dsimp only at hSw); go_simp; try with_reducible rfl)
        try simp only [Act.put, List.setIfInBounds_toArray, List.set_cons_zero, List.set_cons_succ]
        refine' wpAnyH_take (i := 3) (v := _) (by simp only [List.getElem?_toArray, List.getElem?_cons_succ, List.getElem?_cons_zero]; exact rfl) (by kernel_rfl) (by kernel_rfl) (by kernel_rfl) (fun _ _ _ h => h) (Or.inl ⟨by rfl, ?y3x4⟩) hHeld ?r3x4
        case y3x4 => (intro w hSw; (try dsimp only at hSw); go_simp; try with_reducible rfl)
        try simp only [Act.put, List.setIfInBounds_toArray, List.set_cons_zero, List.set_cons_succ]
        refine' wpAnyH_take (i := 4) (v := _) (by simp only [List.getElem?_toArray, List.getElem?_cons_succ, List.getElem?_cons_zero]; exact rfl) (by kernel_rfl) (by kernel_rfl) (by kernel_rfl) (fun _ _ _ h => h) (Or.inl ⟨by rfl, ?y4x5⟩) hHeld ?r4x5
        case y4x5 => (intro w hSw; (try dsimp only at hSw); go_simp; try with_reducible rfl)
        try simp only [Act.put, List.setIfInBounds_toArray, List.set_cons_zero, List.set_cons_succ]
        refine' wpAnyH_take (i := 5) (v := _) (by simp only [List.getElem?_toArray, List.getElem?_cons_succ, List.getElem?_cons_zero]; exact rfl) (by kernel_rfl) (by kernel_rfl) (by kernel_rfl) (fun _ _ _ h => h) (Or.inl ⟨by rfl, ?y5x6⟩) hHeld ?r5x6
        case y5x6 => (intro w hSw; (try dsimp only at hSw); go_simp; try with_reducible rfl)
        try simp only [Act.put, List.setIfInBounds_toArray, List.set_cons_zero, List.set_cons_succ]
        refine' wpAnyH_take (i := 6) (v := _) (by simp only [List.getElem?_toArray, List.getElem?_cons_succ, List.getElem?_cons_zero]; exact rfl) (by kernel_rfl) (by kernel_rfl) (by kernel_rfl) (fun _ _ _ h => h) (Or.inl ⟨by rfl, ?y6x7⟩) hHeld ?r6x7
        case y6x7 => (intro w hSw; (try dsimp only at hSw); go_simp; try with_reducible rfl)
        try simp only [Act.put, List.setIfInBounds_toArray, List.set_cons_zero, List.set_cons_succ]
        refine' wpAnyH_take (i := 8) (v := _) (by simp only [List.getElem?_toArray, List.getElem?_cons_succ, List.getElem?_cons_zero]; exact rfl) (by kernel_rfl) (by kernel_rfl) (by kernel_rfl) (fun _ _ _ h => h) (Or.inl ⟨by rfl, ?y8x8⟩) hHeld ?r8x8
        case y8x8 => (intro w hSw; (try dsimp only at hSw); go_simp; try with_reducible rfl)
        try simp only [Act.put, List.setIfInBounds_toArray, List.set_cons_zero, List.set_cons_succ]
        refine' wpAnyH_take (i := 9) (v := _) (by simp only [List.getElem?_toArray, List.getElem?_cons_succ, List.getElem?_cons_zero]; exact rfl) (by kernel_rfl) (by kernel_rfl) (by kernel_rfl) (fun _ _ _ h => h) (Or.inl ⟨by rfl, ?y9x9⟩) hHeld ?r9x9
        case y9x9 => (intro w hSw; (try dsimp only at hSw); go_simp; try with_reducible rfl)
        try simp only [Act.put, List.setIfInBounds_toArray, List.set_cons_zero, List.set_cons_succ]
        refine' wpAnyH_take (i := 10) (v := _) (by simp only [List.getElem?_toArray, List.getElem?_cons_succ, List.getElem?_cons_zero]; exact rfl) (by kernel_rfl) (by kernel_rfl) (by kernel_rfl) (fun _ _ _ h => h) (Or.inl ⟨by rfl, ?y10x10⟩) hHeld ?r10x10
        case y10x10 => (intro w hSw; (try dsimp only at hSw); go_simp; try with_reducible rfl)
        try simp only [Act.put, List.setIfInBounds_toArray, List.set_cons_zero, List.set_cons_succ]
        refine' wpAnyH_take (i := 11) (v := _) (by simp only [List.getElem?_toArray, List.getElem?_cons_succ, List.getElem?_cons_zero]; exact rfl) (by kernel_rfl) (by kernel_rfl) (by kernel_rfl) (fun _ _ _ h => h) (Or.inl ⟨by rfl, ?y11x11⟩) hHeld ?r11x11
        case y11x11 => (intro w hSw; (try dsimp only at hSw); go_simp; try with_reducible rfl)
        try simp only [Act.put, List.setIfInBounds_toArray, List.set_cons_zero, List.set_cons_succ]
        refine' wpAnyH_take (i := 12) (v := _) (by simp only [List.getElem?_toArray, List.getElem?_cons_succ, List.getElem?_cons_zero]; exact rfl) (by kernel_rfl) (by kernel_rfl) (by kernel_rfl) (fun _ _ _ h => h) (Or.inl ⟨by rfl, ?y12x12⟩) hHeld ?r12x12
        case y12x12 => (intro w hSw; (try dsimp only at hSw); go_simp; try with_reducible rfl)
        try simp only [Act.put, List.setIfInBounds_toArray, List.set_cons_zero, List.set_cons_succ]
        refine' wpAnyH_take (i := 13) (v := _) (by simp only [List.getElem?_toArray, List.getElem?_cons_succ, List.getElem?_cons_zero]; exact rfl) (by kernel_rfl) (by kernel_rfl) (by kernel_rfl) (fun _ _ _ h => h) (Or.inl ⟨by rfl, ?y13x13⟩) hHeld ?r13x13
        case y13x13 => (intro w hSw; (try dsimp only at hSw); go_simp; try with_reducible rfl)
        try simp only [Act.put, List.setIfInBounds_toArray, List.set_cons_zero, List.set_cons_succ]
        refine' wpAnyH_take (i := 14) (v := _) (by simp only [List.getElem?_toArray, List.getElem?_cons_succ, List.getElem?_cons_zero]; exact rfl) (by kernel_rfl) (by kernel_rfl) (by kernel_rfl) (fun _ _ _ h => h) (Or.inl ⟨by rfl, ?y14x14⟩) hHeld ?r14x14
        case y14x14 => (intro w hSw; (try dsimp only at hSw); go_simp; try with_reducible rfl)
        try simp only [Act.put, List.setIfInBounds_toArray, List.set_cons_zero, List.set_cons_succ]
        refine wpAnyH_ready (rs := [7]) (by kernel_rfl) (by simp) ?_
        refine AllReadyH.cons (by simp only [List.getElem?_toArray, List.getElem?_cons_succ, List.getElem?_cons_zero]; exact rfl) (fun K hK => ?_) AllReadyH.nil
        go_simp
        refine (raise_any pb mb _ x.town x.level x.hour _ HT5.out.p.drew (by omega) (by omega)).mono ?_
        rintro e w6 ⟨rfl, hP, hv⟩
        have HX6 := Lib.hid ((hv.block po hwl (by omega) (by omega)).trans HX5.out)
        have HP6 := Lib.hid hP
        have HQ6 := Lib.hid ((HT5.out.rq.drewN 1).mv hv HT5.out.pB HT5.out.mB)
        have HV6 := Lib.hid (hv.below HT5.out.below.drew HT5.out.W0.1 HT5.out.W0.2 HT5.out.below.size)
        clear hP hv
        refine hK.out _ _ (row8 HX6.out) (fun hHeld => ?_)
        clear hK K
        try simp only [Act.put, List.setIfInBounds_toArray, List.set_cons_zero, List.set_cons_succ]
        refine wpAnyH_ready (rs := [15]) (by kernel_rfl) (by simp) ?_
        refine AllReadyH.cons (by simp only [List.getElem?_toArray, List.getElem?_cons_succ, List.getElem?_cons_zero]; exact rfl) (fun K hK => ?_) AllReadyH.nil
        go_simp
        refine (rraise_any qb base _ x.town x.level x.hour _ HQ6.out (by omega)).mono ?_
        rintro e w7 ⟨rfl, hQ, hb, hy⟩
        have HX7 := Lib.hid (hy po _ _ _ HX6.out (by decide) (by decide))
        have HP7 := Lib.hid (below_base HP6.out hb HT5.out.pB HT5.out.mB)
        have HQ7 := Lib.hid hQ
        have HV7 := Lib.hid (HV6.out.trans (hb.mono HT5.out.Wb))
        clear hQ hb hy
        refine hK.out _ _ (row8 HX7.out) (fun hHeld => ?_)
        clear hK K
        try simp only [Act.put, List.setIfInBounds_toArray, List.set_cons_zero, List.set_cons_succ]
        have HR := Lib.hid (ref_raise HT5.out.ref x.town x.level x.hour)
        rw [HR.out.1]
        refine' wpAnyH_take (i := 16) (v := _) (by simp only [List.getElem?_toArray, List.getElem?_cons_succ, List.getElem?_cons_zero]; exact rfl) (by kernel_rfl) (by kernel_rfl) (by kernel_rfl) (fun _ _ _ h => h) (Or.inl ⟨by rfl, ?y16x15⟩) hHeld ?r16x15
        case y16x15 => (intro w hSw; (try dsimp only at hSw); go_simp; try with_reducible rfl)
        try simp only [Act.put, List.setIfInBounds_toArray, List.set_cons_zero, List.set_cons_succ]
        refine' wpAnyH_take (i := 17) (v := _) (by simp only [List.getElem?_toArray, List.getElem?_cons_succ, List.getElem?_cons_zero]; exact rfl) (by kernel_rfl) (by kernel_rfl) (by kernel_rfl) (fun _ _ _ h => h) (Or.inl ⟨by rfl, ?y17x16⟩) hHeld ?r17x16
        case y17x16 => (intro w hSw; (try dsimp only at hSw); go_simp; try with_reducible rfl)
        try simp only [Act.put, List.setIfInBounds_toArray, List.set_cons_zero, List.set_cons_succ]
        refine wpAnyH_done (by kernel_rfl) ?_ _
        refine NoPanic.normal ?_
        have HT7 : Hid (TInv W pb mb qb base m (k + 1) w7 (raiseS s x.town x.level x.hour).2 (raiseR q x.town x.level x.hour).2) := Lib.hid { HT5.out with
          p := HP7.out
          rq := HQ7.out
          ref := HR.out.2
          okp := raise_ok HT5.out.okp _ _ _
          okq := raiseR_ok HT5.out.okq _ _ _
          n := (raise_n s x.town x.level x.hour).trans HT5.out.n
          r := Nat.le_trans (raise_r s x.town x.level x.hour) (Nat.succ_le_succ HT5.out.r)
          below := HV7.out }
        go_wp2_with fail
        go_roundw
        case rel => exact ⟨k + 1, _, _, by omega, by go_num, HT7.out⟩
        case measure => simp [intOf]; omega
      · by_cases h1 : bits .and .i64 x.act 3 = 1
        · have e0 : (bits .and .i64 x.act 3 == 0) = false := by first | (rw [h0]; rfl) | (rw [beq_eq_false_iff_ne]; exact h0) | (rw [h1]; rfl)
          have e1 : (bits .and .i64 x.act 3 == 1) = true := by first | (rw [h1]; rfl) | (rw [beq_eq_false_iff_ne]; exact h1) | (rw [h1]; rfl)
          go_wp2_with fail
          clear h0 h1 e0 e1
          clear c0 c1 c2 c3 c4 c5 c6 c7
          generalize wr.alloc (.cells #[.int .i64 x.act, .int .i64 x.town, .int .i64 x.level, .int .i64 x.hour, .int .i64 x.call.town, .int .i64 x.call.level, .int .i64 x.call.number, .int .i64 x.call.warden] 31) = w5 at *
          have hpm : pb < wr.heap.size ∧ mb < wr.heap.size := ⟨by have := HT5.out.pB; omega, by have := HT5.out.mB; omega⟩
          generalize wr.heap.size = po at *
          refine wp_region_noPanic ?_
          refine wp_region_held_drew (S := fun w' => w'.cell? ⟨po, 0, none⟩ = some (.int .i64 x.act) ∧ w'.cell? ⟨po, 1, none⟩ = some (.int .i64 x.town) ∧ w'.cell? ⟨po, 2, none⟩ = some (.int .i64 x.level) ∧ w'.cell? ⟨po, 3, none⟩ = some (.int .i64 x.hour) ∧ w'.cell? ⟨po, 4, none⟩ = some (.int .i64 x.call.town) ∧ w'.cell? ⟨po, 5, none⟩ = some (.int .i64 x.call.level) ∧ w'.cell? ⟨po, 6, none⟩ = some (.int .i64 x.call.number) ∧ w'.cell? ⟨po, 7, none⟩ = some (.int .i64 x.call.warden)) (by kernel_rfl) (row8 HX5.out) (fun hHeld => ?_)
          refine' wpAnyH_take (i := 0) (v := _) (by simp only [List.getElem?_toArray, List.getElem?_cons_zero]; exact rfl) (by kernel_rfl) (by kernel_rfl) (by kernel_rfl) (fun _ _ _ h => h) (Or.inl ⟨by rfl, ?y0x17⟩) hHeld ?r0x17
          case y0x17 => (intro w hSw; (try dsimp only at hSw); go_simp; try with_reducible rfl)
          try simp only [Act.put, List.setIfInBounds_toArray, List.set_cons_zero, List.set_cons_succ]
          refine' wpAnyH_take (i := 1) (v := _) (by simp only [List.getElem?_toArray, List.getElem?_cons_succ, List.getElem?_cons_zero]; exact rfl) (by kernel_rfl) (by kernel_rfl) (by kernel_rfl) (fun _ _ _ h => h) (Or.inl ⟨by rfl, ?y1x18⟩) hHeld ?r1x18
          case y1x18 => (intro w hSw; (try dsimp only at hSw); go_simp; try with_reducible rfl)
          try simp only [Act.put, List.setIfInBounds_toArray, List.set_cons_zero, List.set_cons_succ]
          refine' wpAnyH_take (i := 2) (v := _) (by simp only [List.getElem?_toArray, List.getElem?_cons_succ, List.getElem?_cons_zero]; exact rfl) (by kernel_rfl) (by kernel_rfl) (by kernel_rfl) (fun _ _ _ h => h) (Or.inl ⟨by rfl, ?y2x19⟩) hHeld ?r2x19
          case y2x19 => (intro w hSw; (try dsimp only at hSw); go_simp; try with_reducible rfl)
          try simp only [Act.put, List.setIfInBounds_toArray, List.set_cons_zero, List.set_cons_succ]
          refine' wpAnyH_take (i := 4) (v := _) (by simp only [List.getElem?_toArray, List.getElem?_cons_succ, List.getElem?_cons_zero]; exact rfl) (by kernel_rfl) (by kernel_rfl) (by kernel_rfl) (fun _ _ _ h => h) (Or.inl ⟨by rfl, ?y4x20⟩) hHeld ?r4x20
          case y4x20 => (intro w hSw; (try dsimp only at hSw); go_simp; try with_reducible rfl)
          try simp only [Act.put, List.setIfInBounds_toArray, List.set_cons_zero, List.set_cons_succ]
          refine' wpAnyH_take (i := 5) (v := _) (by simp only [List.getElem?_toArray, List.getElem?_cons_succ, List.getElem?_cons_zero]; exact rfl) (by kernel_rfl) (by kernel_rfl) (by kernel_rfl) (fun _ _ _ h => h) (Or.inl ⟨by rfl, ?y5x21⟩) hHeld ?r5x21
          case y5x21 => (intro w hSw; (try dsimp only at hSw); go_simp; try with_reducible rfl)
          try simp only [Act.put, List.setIfInBounds_toArray, List.set_cons_zero, List.set_cons_succ]
          refine' wpAnyH_take (i := 6) (v := _) (by simp only [List.getElem?_toArray, List.getElem?_cons_succ, List.getElem?_cons_zero]; exact rfl) (by kernel_rfl) (by kernel_rfl) (by kernel_rfl) (fun _ _ _ h => h) (Or.inl ⟨by rfl, ?y6x22⟩) hHeld ?r6x22
          case y6x22 => (intro w hSw; (try dsimp only at hSw); go_simp; try with_reducible rfl)
          try simp only [Act.put, List.setIfInBounds_toArray, List.set_cons_zero, List.set_cons_succ]
          refine wpAnyH_ready (rs := [3]) (by kernel_rfl) (by simp) ?_
          refine AllReadyH.cons (by simp only [List.getElem?_toArray, List.getElem?_cons_succ, List.getElem?_cons_zero]; exact rfl) (fun K hK => ?_) AllReadyH.nil
          go_simp
          refine (ack_any pb mb _ x.call _ HT5.out.p.drew HOk.out.2.2.2.2 (by omega)).mono ?_
          rintro e w6 ⟨rfl, hP, hv⟩
          have HX6 := Lib.hid ((hv.block po hwl (by omega) (by omega)).trans HX5.out)
          have HP6 := Lib.hid hP
          have HQ6 := Lib.hid ((HT5.out.rq.drewN 1).mv hv HT5.out.pB HT5.out.mB)
          have HV6 := Lib.hid (hv.below HT5.out.below.drew HT5.out.W0.1 HT5.out.W0.2 HT5.out.below.size)
          clear hP hv
          refine hK.out _ _ (row8 HX6.out) (fun hHeld => ?_)
          clear hK K
          try simp only [Act.put, List.setIfInBounds_toArray, List.set_cons_zero, List.set_cons_succ]
          refine wpAnyH_ready (rs := [7]) (by kernel_rfl) (by simp) ?_
          refine AllReadyH.cons (by simp only [List.getElem?_toArray, List.getElem?_cons_succ, List.getElem?_cons_zero]; exact rfl) (fun K hK => ?_) AllReadyH.nil
          go_simp
          refine (rack_any qb base _ x.call _ HQ6.out (by omega) hqn HOk.out.2.2.2.2).mono ?_
          rintro e w7 ⟨rfl, hQ, hb, hy⟩
          have HX7 := Lib.hid (hy po _ _ _ HX6.out (by decide) (by decide))
          have HP7 := Lib.hid (below_base HP6.out hb HT5.out.pB HT5.out.mB)
          have HQ7 := Lib.hid hQ
          have HV7 := Lib.hid (HV6.out.trans (hb.mono HT5.out.Wb))
          clear hQ hb hy
          refine hK.out _ _ (row8 HX7.out) (fun hHeld => ?_)
          clear hK K
          try simp only [Act.put, List.setIfInBounds_toArray, List.set_cons_zero, List.set_cons_succ]
          have HR := Lib.hid (ref_ack HT5.out.ref x.call)
          rw [HR.out.1]
          refine' wpAnyH_take (i := 8) (v := _) (by simp only [List.getElem?_toArray, List.getElem?_cons_succ, List.getElem?_cons_zero]; exact rfl) (by kernel_rfl) (by kernel_rfl) (by kernel_rfl) (fun _ _ _ h => h) (Or.inl ⟨by rfl, ?y8x23⟩) hHeld ?r8x23
          case y8x23 => (intro w hSw; (try dsimp only at hSw); go_simp; try with_reducible rfl)
          try simp only [Act.put, List.setIfInBounds_toArray, List.set_cons_zero, List.set_cons_succ]
          refine' wpAnyH_take (i := 9) (v := _) (by simp only [List.getElem?_toArray, List.getElem?_cons_succ, List.getElem?_cons_zero]; exact rfl) (by kernel_rfl) (by kernel_rfl) (by kernel_rfl) (fun _ _ _ h => h) (Or.inl ⟨by rfl, ?y9x24⟩) hHeld ?r9x24
          case y9x24 => (intro w hSw; (try dsimp only at hSw); go_simp; try with_reducible rfl)
          try simp only [Act.put, List.setIfInBounds_toArray, List.set_cons_zero, List.set_cons_succ]
          refine wpAnyH_done (by kernel_rfl) ?_ _
          refine NoPanic.normal ?_
          have HT7 : Hid (TInv W pb mb qb base m (k + 1) w7 (ackS s x.call).2 (ackR q x.call).2) := Lib.hid { HT5.out with
            p := HP7.out
            rq := HQ7.out
            ref := HR.out.2
            okp := ack_ok HT5.out.okp _
            okq := ackR_ok HT5.out.okq _
            n := (ack_r s x.call).2.trans HT5.out.n
            r := by rw [(ack_r s x.call).1]; exact Nat.le_succ_of_le HT5.out.r
            below := HV7.out }
          go_wp2_with fail
          go_roundw
          case rel => exact ⟨k + 1, _, _, by omega, by go_num, HT7.out⟩
          case measure => simp [intOf]; omega
        · by_cases h2 : bits .and .i64 x.act 3 = 2
          · have e0 : (bits .and .i64 x.act 3 == 0) = false := by first | (rw [h0]; rfl) | (rw [beq_eq_false_iff_ne]; exact h0) | (rw [h2]; rfl)
            have e1 : (bits .and .i64 x.act 3 == 1) = false := by first | (rw [h1]; rfl) | (rw [beq_eq_false_iff_ne]; exact h1) | (rw [h2]; rfl)
            have e2 : (bits .and .i64 x.act 3 == 2) = true := by first | (rw [h2]; rfl) | (rw [beq_eq_false_iff_ne]; exact h2) | (rw [h2]; rfl)
            go_wp2_with fail
            clear h0 h1 h2 e0 e1 e2
            clear c0 c1 c2 c3 c4 c5 c6 c7
            generalize wr.alloc (.cells #[.int .i64 x.act, .int .i64 x.town, .int .i64 x.level, .int .i64 x.hour, .int .i64 x.call.town, .int .i64 x.call.level, .int .i64 x.call.number, .int .i64 x.call.warden] 31) = w5 at *
            have hpm : pb < wr.heap.size ∧ mb < wr.heap.size := ⟨by have := HT5.out.pB; omega, by have := HT5.out.mB; omega⟩
            generalize wr.heap.size = po at *
            refine wp_region_noPanic ?_
            refine wp_region_held_drew (S := fun w' => w'.cell? ⟨po, 0, none⟩ = some (.int .i64 x.act) ∧ w'.cell? ⟨po, 1, none⟩ = some (.int .i64 x.town) ∧ w'.cell? ⟨po, 2, none⟩ = some (.int .i64 x.level) ∧ w'.cell? ⟨po, 3, none⟩ = some (.int .i64 x.hour) ∧ w'.cell? ⟨po, 4, none⟩ = some (.int .i64 x.call.town) ∧ w'.cell? ⟨po, 5, none⟩ = some (.int .i64 x.call.level) ∧ w'.cell? ⟨po, 6, none⟩ = some (.int .i64 x.call.number) ∧ w'.cell? ⟨po, 7, none⟩ = some (.int .i64 x.call.warden)) (by kernel_rfl) (row8 HX5.out) (fun hHeld => ?_)
            refine' wpAnyH_take (i := 0) (v := _) (by simp only [List.getElem?_toArray, List.getElem?_cons_zero]; exact rfl) (by kernel_rfl) (by kernel_rfl) (by kernel_rfl) (fun _ _ _ h => h) (Or.inl ⟨by rfl, ?y0x25⟩) hHeld ?r0x25
            case y0x25 => (intro w hSw; (try dsimp only at hSw); go_simp; try with_reducible rfl)
            try simp only [Act.put, List.setIfInBounds_toArray, List.set_cons_zero, List.set_cons_succ]
            refine' wpAnyH_take (i := 1) (v := _) (by simp only [List.getElem?_toArray, List.getElem?_cons_succ, List.getElem?_cons_zero]; exact rfl) (by kernel_rfl) (by kernel_rfl) (by kernel_rfl) (fun _ _ _ h => h) (Or.inl ⟨by rfl, ?y1x26⟩) hHeld ?r1x26
            case y1x26 => (intro w hSw; (try dsimp only at hSw); go_simp; try with_reducible rfl)
            try simp only [Act.put, List.setIfInBounds_toArray, List.set_cons_zero, List.set_cons_succ]
            refine' wpAnyH_take (i := 2) (v := _) (by simp only [List.getElem?_toArray, List.getElem?_cons_succ, List.getElem?_cons_zero]; exact rfl) (by kernel_rfl) (by kernel_rfl) (by kernel_rfl) (fun _ _ _ h => h) (Or.inl ⟨by rfl, ?y2x27⟩) hHeld ?r2x27
            case y2x27 => (intro w hSw; (try dsimp only at hSw); go_simp; try with_reducible rfl)
            try simp only [Act.put, List.setIfInBounds_toArray, List.set_cons_zero, List.set_cons_succ]
            refine' wpAnyH_take (i := 4) (v := _) (by simp only [List.getElem?_toArray, List.getElem?_cons_succ, List.getElem?_cons_zero]; exact rfl) (by kernel_rfl) (by kernel_rfl) (by kernel_rfl) (fun _ _ _ h => h) (Or.inl ⟨by rfl, ?y4x28⟩) hHeld ?r4x28
            case y4x28 => (intro w hSw; (try dsimp only at hSw); go_simp; try with_reducible rfl)
            try simp only [Act.put, List.setIfInBounds_toArray, List.set_cons_zero, List.set_cons_succ]
            refine' wpAnyH_take (i := 5) (v := _) (by simp only [List.getElem?_toArray, List.getElem?_cons_succ, List.getElem?_cons_zero]; exact rfl) (by kernel_rfl) (by kernel_rfl) (by kernel_rfl) (fun _ _ _ h => h) (Or.inl ⟨by rfl, ?y5x29⟩) hHeld ?r5x29
            case y5x29 => (intro w hSw; (try dsimp only at hSw); go_simp; try with_reducible rfl)
            try simp only [Act.put, List.setIfInBounds_toArray, List.set_cons_zero, List.set_cons_succ]
            refine' wpAnyH_take (i := 6) (v := _) (by simp only [List.getElem?_toArray, List.getElem?_cons_succ, List.getElem?_cons_zero]; exact rfl) (by kernel_rfl) (by kernel_rfl) (by kernel_rfl) (fun _ _ _ h => h) (Or.inl ⟨by rfl, ?y6x30⟩) hHeld ?r6x30
            case y6x30 => (intro w hSw; (try dsimp only at hSw); go_simp; try with_reducible rfl)
            try simp only [Act.put, List.setIfInBounds_toArray, List.set_cons_zero, List.set_cons_succ]
            refine wpAnyH_ready (rs := [3]) (by kernel_rfl) (by simp) ?_
            refine AllReadyH.cons (by simp only [List.getElem?_toArray, List.getElem?_cons_succ, List.getElem?_cons_zero]; exact rfl) (fun K hK => ?_) AllReadyH.nil
            go_simp
            refine (awaits_any pb mb _ x.call _ HT5.out.p.drew HOk.out.2.2.2.2).mono ?_
            rintro e w6 ⟨rfl, hb⟩
            have hb5 : Below w5.heap.size w5 w6 := ⟨hb.os, hb.tape, hb.output, hb.size, hb.block⟩
            have HX6 := Lib.hid (blk_below HX5.out hb5 hwl)
            have HT6 := Lib.hid (HT5.out.below' hb5)
            clear hb5
            clear hb
            refine hK.out _ _ (row8 HX6.out) (fun hHeld => ?_)
            clear hK K
            try simp only [Act.put, List.setIfInBounds_toArray, List.set_cons_zero, List.set_cons_succ]
            refine wpAnyH_ready (rs := [7]) (by kernel_rfl) (by simp) ?_
            refine AllReadyH.cons (by simp only [List.getElem?_toArray, List.getElem?_cons_succ, List.getElem?_cons_zero]; exact rfl) (fun K hK => ?_) AllReadyH.nil
            go_simp
            refine (rawaits_any qb base _ x.call _ HT6.out.rq (by omega) hqn HOk.out.2.2.2.2).mono ?_
            rintro e w7 ⟨rfl, hb⟩
            have HX7 := Lib.hid (blk_below HX6.out hb (blk_lt HX6.out))
            have HT7 := Lib.hid (HT6.out.below' hb)
            clear hb
            refine hK.out _ _ (row8 HX7.out) (fun hHeld => ?_)
            clear hK K
            try simp only [Act.put, List.setIfInBounds_toArray, List.set_cons_zero, List.set_cons_succ]
            have HR := Lib.hid (ref_awaits HT5.out.ref x.call)
            rw [HR.out]
            refine' wpAnyH_take (i := 8) (v := _) (by simp only [List.getElem?_toArray, List.getElem?_cons_succ, List.getElem?_cons_zero]; exact rfl) (by kernel_rfl) (by kernel_rfl) (by kernel_rfl) (fun _ _ _ h => h) (Or.inl ⟨by rfl, ?y8x31⟩) hHeld ?r8x31
            case y8x31 => (intro w hSw; (try dsimp only at hSw); go_simp; try with_reducible rfl)
            try simp only [Act.put, List.setIfInBounds_toArray, List.set_cons_zero, List.set_cons_succ]
            refine' wpAnyH_take (i := 9) (v := _) (by simp only [List.getElem?_toArray, List.getElem?_cons_succ, List.getElem?_cons_zero]; exact rfl) (by kernel_rfl) (by kernel_rfl) (by kernel_rfl) (fun _ _ _ h => h) (Or.inl ⟨by rfl, ?y9x32⟩) hHeld ?r9x32
            case y9x32 => (intro w hSw; (try dsimp only at hSw); go_simp; try with_reducible rfl)
            try simp only [Act.put, List.setIfInBounds_toArray, List.set_cons_zero, List.set_cons_succ]
            refine wpAnyH_done (by kernel_rfl) ?_ _
            refine NoPanic.normal ?_
            go_wp2_with fail
            go_roundw
            case rel => exact ⟨k + 1, _, _, by omega, by go_num, HT7.out.more⟩
            case measure => simp [intOf]; omega
          · have e0 : (bits .and .i64 x.act 3 == 0) = false := by first | (rw [h0]; rfl) | (rw [beq_eq_false_iff_ne]; exact h0) | (rw [h0]; rfl)
            have e1 : (bits .and .i64 x.act 3 == 1) = false := by first | (rw [h1]; rfl) | (rw [beq_eq_false_iff_ne]; exact h1) | (rw [h0]; rfl)
            have e2 : (bits .and .i64 x.act 3 == 2) = false := by first | (rw [h2]; rfl) | (rw [beq_eq_false_iff_ne]; exact h2) | (rw [h0]; rfl)
            go_wp2_with fail
            clear h0 h1 h2 e0 e1 e2
            clear c0 c1 c2 c3 c4 c5 c6 c7
            generalize wr.alloc (.cells #[.int .i64 x.act, .int .i64 x.town, .int .i64 x.level, .int .i64 x.hour, .int .i64 x.call.town, .int .i64 x.call.level, .int .i64 x.call.number, .int .i64 x.call.warden] 31) = w5 at *
            have hpm : pb < wr.heap.size ∧ mb < wr.heap.size := ⟨by have := HT5.out.pB; omega, by have := HT5.out.mB; omega⟩
            generalize wr.heap.size = po at *
            refine wp_region_noPanic ?_
            refine wp_region_held_drew (S := fun w' => w'.cell? ⟨po, 0, none⟩ = some (.int .i64 x.act) ∧ w'.cell? ⟨po, 1, none⟩ = some (.int .i64 x.town) ∧ w'.cell? ⟨po, 2, none⟩ = some (.int .i64 x.level) ∧ w'.cell? ⟨po, 3, none⟩ = some (.int .i64 x.hour) ∧ w'.cell? ⟨po, 4, none⟩ = some (.int .i64 x.call.town) ∧ w'.cell? ⟨po, 5, none⟩ = some (.int .i64 x.call.level) ∧ w'.cell? ⟨po, 6, none⟩ = some (.int .i64 x.call.number) ∧ w'.cell? ⟨po, 7, none⟩ = some (.int .i64 x.call.warden)) (by kernel_rfl) (row8 HX5.out) (fun hHeld => ?_)
            refine' wpAnyH_take (i := 0) (v := _) (by simp only [List.getElem?_toArray, List.getElem?_cons_zero]; exact rfl) (by kernel_rfl) (by kernel_rfl) (by kernel_rfl) (fun _ _ _ h => h) (Or.inl ⟨by rfl, ?y0x33⟩) hHeld ?r0x33
            case y0x33 => (intro w hSw; (try dsimp only at hSw); go_simp; try with_reducible rfl)
            try simp only [Act.put, List.setIfInBounds_toArray, List.set_cons_zero, List.set_cons_succ]
            refine' wpAnyH_take (i := 1) (v := _) (by simp only [List.getElem?_toArray, List.getElem?_cons_succ, List.getElem?_cons_zero]; exact rfl) (by kernel_rfl) (by kernel_rfl) (by kernel_rfl) (fun _ _ _ h => h) (Or.inl ⟨by rfl, ?y1x34⟩) hHeld ?r1x34
            case y1x34 => (intro w hSw; (try dsimp only at hSw); go_simp; try with_reducible rfl)
            try simp only [Act.put, List.setIfInBounds_toArray, List.set_cons_zero, List.set_cons_succ]
            refine' wpAnyH_take (i := 2) (v := _) (by simp only [List.getElem?_toArray, List.getElem?_cons_succ, List.getElem?_cons_zero]; exact rfl) (by kernel_rfl) (by kernel_rfl) (by kernel_rfl) (fun _ _ _ h => h) (Or.inl ⟨by rfl, ?y2x35⟩) hHeld ?r2x35
            case y2x35 => (intro w hSw; (try dsimp only at hSw); go_simp; try with_reducible rfl)
            try simp only [Act.put, List.setIfInBounds_toArray, List.set_cons_zero, List.set_cons_succ]
            refine' wpAnyH_take (i := 4) (v := _) (by simp only [List.getElem?_toArray, List.getElem?_cons_succ, List.getElem?_cons_zero]; exact rfl) (by kernel_rfl) (by kernel_rfl) (by kernel_rfl) (fun _ _ _ h => h) (Or.inl ⟨by rfl, ?y4x36⟩) hHeld ?r4x36
            case y4x36 => (intro w hSw; (try dsimp only at hSw); go_simp; try with_reducible rfl)
            try simp only [Act.put, List.setIfInBounds_toArray, List.set_cons_zero, List.set_cons_succ]
            refine' wpAnyH_take (i := 5) (v := _) (by simp only [List.getElem?_toArray, List.getElem?_cons_succ, List.getElem?_cons_zero]; exact rfl) (by kernel_rfl) (by kernel_rfl) (by kernel_rfl) (fun _ _ _ h => h) (Or.inl ⟨by rfl, ?y5x37⟩) hHeld ?r5x37
            case y5x37 => (intro w hSw; (try dsimp only at hSw); go_simp; try with_reducible rfl)
            try simp only [Act.put, List.setIfInBounds_toArray, List.set_cons_zero, List.set_cons_succ]
            refine' wpAnyH_take (i := 6) (v := _) (by simp only [List.getElem?_toArray, List.getElem?_cons_succ, List.getElem?_cons_zero]; exact rfl) (by kernel_rfl) (by kernel_rfl) (by kernel_rfl) (fun _ _ _ h => h) (Or.inl ⟨by rfl, ?y6x38⟩) hHeld ?r6x38
            case y6x38 => (intro w hSw; (try dsimp only at hSw); go_simp; try with_reducible rfl)
            try simp only [Act.put, List.setIfInBounds_toArray, List.set_cons_zero, List.set_cons_succ]
            refine wpAnyH_ready (rs := [3]) (by kernel_rfl) (by simp) ?_
            refine AllReadyH.cons (by simp only [List.getElem?_toArray, List.getElem?_cons_succ, List.getElem?_cons_zero]; exact rfl) (fun K hK => ?_) AllReadyH.nil
            go_simp
            refine (due_any pb mb s x.hour _ HT5.out.p.drew HT5.out.okp hhr).mono ?_
            rintro e w6 ⟨v1, rfl, hown1, hb⟩
            have hb5 : Below w5.heap.size w5 w6 := ⟨hb.os, hb.tape, hb.output, hb.size, hb.block⟩
            have HX6 := Lib.hid (blk_below HX5.out hb5 hwl)
            have HT6 := Lib.hid (HT5.out.below' hb5)
            clear hb5
            have HC6 := Lib.hid (CFrom.of_owns hown1)
            clear hown1 hb
            refine hK.out _ _ (row8 HX6.out) (fun hHeld => ?_)
            clear hK K
            try simp only [Act.put, List.setIfInBounds_toArray, List.set_cons_zero, List.set_cons_succ]
            refine wpAnyH_ready (rs := [7]) (by kernel_rfl) (by simp) ?_
            refine AllReadyH.cons (by simp only [List.getElem?_toArray, List.getElem?_cons_succ, List.getElem?_cons_zero]; exact rfl) (fun K hK => ?_) AllReadyH.nil
            go_simp
            refine (rdue_any qb base q x.hour _ HT6.out.rq (by omega) HT6.out.okq hhr).mono ?_
            rintro e w7 ⟨v2, rfl, hown2, hb⟩
            have HX7 := Lib.hid (blk_below HX6.out hb (blk_lt HX6.out))
            have HT7 := Lib.hid (HT6.out.below' hb)
            rw [← ref_due HT5.out.ref HT5.out.okp x.hour] at hown2
            have HC7 := Lib.hid (HC6.out.below hb)
            have HD7 := Lib.hid (CFrom.of_owns hown2)
            clear hown2 hb
            refine hK.out _ _ (row8 HX7.out) (fun hHeld => ?_)
            clear hK K
            try simp only [Act.put, List.setIfInBounds_toArray, List.set_cons_zero, List.set_cons_succ]
            refine wpAnyH_ready (rs := [8]) (by kernel_rfl) (by simp) ?_
            refine AllReadyH.cons (by simp only [List.getElem?_toArray, List.getElem?_cons_succ, List.getElem?_cons_zero]; exact rfl) (fun K hK => ?_) AllReadyH.nil
            go_simp
            refine (rsame_any v1 v2 (dueS s x.hour) _ HC7.out.args HD7.out.args (Nat.le_trans (due_len HT5.out.okp x.hour) (by decide))).mono ?_
            rintro e w8 ⟨rfl, hb⟩
            have HX8 := Lib.hid (blk_below HX7.out hb (blk_lt HX7.out))
            have HT8 := Lib.hid (HT7.out.below' hb)
            clear hb
            refine hK.out _ _ (row8 HX8.out) (fun hHeld => ?_)
            clear hK K
            try simp only [Act.put, List.setIfInBounds_toArray, List.set_cons_zero, List.set_cons_succ]
            refine' wpAnyH_take (i := 9) (v := _) (by simp only [List.getElem?_toArray, List.getElem?_cons_succ, List.getElem?_cons_zero]; exact rfl) (by kernel_rfl) (by kernel_rfl) (by kernel_rfl) (fun _ _ _ h => h) (Or.inl ⟨by rfl, ?y9x39⟩) hHeld ?r9x39
            case y9x39 => (intro w hSw; (try dsimp only at hSw); go_simp; try with_reducible rfl)
            try simp only [Act.put, List.setIfInBounds_toArray, List.set_cons_zero, List.set_cons_succ]
            refine wpAnyH_done (by kernel_rfl) ?_ _
            refine NoPanic.normal ?_
            go_wp2_with fail
            refine (open_any pb mb s _ HT8.out.p HT8.out.okp).mono ?_
            rintro e w9 ⟨v3, rfl, hown1, hb⟩
            have HI9 := Lib.hid (IArg.of_owns hown1)
            have HT9 := Lib.hid (HT8.out.below' hb)
            clear hown1 hb
            go_wp2_with fail
            refine (ropen_any qb base q _ HT9.out.rq (by omega)).mono ?_
            rintro e wa ⟨v4, rfl, hown2, hb⟩
            rw [← ref_open HT5.out.ref HT5.out.okp] at hown2
            have HIa := Lib.hid (HI9.out.below hb)
            have HJa := Lib.hid (IArg.of_owns hown2)
            have HTa := Lib.hid (HT9.out.below' hb)
            have hlo : (openS s).length ≤ 1000 := by unfold openS; rw [List.length_map]; exact Nat.le_trans (openM_len HT5.out.okp) (by decide)
            clear hown2 hb
            go_wp2_with fail
            refine (rsamet_any v3 v4 (openS s) _ HIa.out HJa.out hlo).mono ?_
            rintro e wb ⟨rfl, hb⟩
            have HTb := Lib.hid (HTa.out.below' hb)
            clear hb
            go_wp2_with fail
            go_roundw
            case rel => exact ⟨k + 1, _, _, by omega, by go_num, HTb.out.more⟩
            case measure => simp [intOf]; omega
    · obtain rfl : k = l.length := by omega
      go_wp2_with fail
      go_ret
      exact ⟨rfl, HT.out.below⟩
end Go.Proofs.Ythijckdablkofaa
