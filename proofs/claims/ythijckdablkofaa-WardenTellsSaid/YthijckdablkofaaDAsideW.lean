/- bournelaw44.WardenAside returns true for all numbers of wardens, steps, towns and hours. -/
import Derived.Test.YthijckdablkofaaDAsW

namespace Go.Proofs.Ythijckdablkofaa
open Go.RowKit
theorem row8 {w : World} {p : Nat} {fr : Nat × Nat} {ty : TypeId} {a b c d e f g h : Value} (r : w.heap[p]? = some (.cells #[a, b, c, d, e, f, g, h] ty fr)) : w.cell? ⟨p, 0, none⟩ = some a ∧ w.cell? ⟨p, 1, none⟩ = some b ∧ w.cell? ⟨p, 2, none⟩ = some c ∧ w.cell? ⟨p, 3, none⟩ = some d ∧
    w.cell? ⟨p, 4, none⟩ = some e ∧ w.cell? ⟨p, 5, none⟩ = some f ∧ w.cell? ⟨p, 6, none⟩ = some g ∧ w.cell? ⟨p, 7, none⟩ = some h :=
  ⟨(cell_of_row _ _ _ _ _ _ r).trans rfl, (cell_of_row _ _ _ _ _ _ r).trans rfl, (cell_of_row _ _ _ _ _ _ r).trans rfl, (cell_of_row _ _ _ _ _ _ r).trans rfl, (cell_of_row _ _ _ _ _ _ r).trans rfl, (cell_of_row _ _ _ _ _ _ r).trans rfl, (cell_of_row _ _ _ _ _ _ r).trans rfl, (cell_of_row _ _ _ _ _ _ r).trans rfl⟩
theorem grown_set {w : World} {cb j : Nat} {v : Value} (n : Nat) : w.grownBy ((w.drewN n).setCell ⟨cb, j, none⟩ v) (some cb) :=
  ⟨rfl, rfl, rfl, by simp, fun k _ h => heap_setCell_other _ _ _ _ (fun e => h (by rw [e]))⟩
set_option maxRecDepth 100000 in
set_option maxHeartbeats 16000000 in
theorem aside_core (n : Int) (v : Value) (l : List SV) (town hour : Int) (W : World) (hn : I64 n) (hS : SArg v l W) (hlen : (l.length : Int) ≤ maxLen) (_ht : I64 town) (hh : I64 hour) :
    Calls Try.prog 6 #[.int .i64 n, v, .int .i64 town, .int .i64 hour] W fun e w' => e = .returned (.bool true) ∧ Below W.heap.size W w' := by
  unfold I64 at hn
  unfold maxLen at hlen
  have HS := Lib.hid hS
  obtain ⟨a, c, rfl⟩ := hS.slice
  clear hS
  by_cases hbad : n < 1 ∨ 16 < n
  · have HBad := Lib.hid hbad
    clear hbad
    go_enter Try.func6, Try.ntmps6
    go_wp2_with fail
    refine (small_any _).mono ?_
    rintro e w1 ⟨rfl, hb⟩
    have HB := Lib.hid hb
    clear hb
    go_wp2_with fail
    refine (new_none n HBad.out _).mono ?_
    rintro e w2 ⟨rfl, rfl⟩
    go_wp2_with fail
    refine (new_none n HBad.out _).mono ?_
    rintro e w2 ⟨rfl, rfl⟩
    go_wp2_with fail
    go_ret
    exact ⟨rfl, HB.out⟩
  obtain ⟨m, rfl⟩ : ∃ m : Nat, n = m := ⟨n.toNat, by omega⟩
  have hm1 : 1 ≤ m := by omega
  have hm2 : m ≤ 16 := by omega
  clear hbad hn
  by_cases hl : 40 < l.length
  · go_enter Try.func6, Try.ntmps6
    go_wp2_with fail
    refine (small_any _).mono ?_
    rintro e w1 ⟨rfl, hb⟩
    have HB := Lib.hid hb
    clear hb
    go_wp2_with fail
    refine (new_any m hm1 hm2 _).mono ?_
    rintro e w2 ⟨rfl, _, hb⟩
    have HB2 := Lib.hid (HB.out.trans (hb.mono HB.out.size))
    clear hb
    go_wp2_with fail
    refine (new_any m hm1 hm2 _).mono ?_
    rintro e w3 ⟨rfl, _, hb⟩
    have HB3 := Lib.hid (HB2.out.trans (hb.mono HB2.out.size))
    clear hb
    go_wp2_with fail
    go_ret
    exact ⟨rfl, HB3.out⟩
  obtain ⟨iI, hiI, hzI, hsI, hbI⟩ := info_parts infoInt
  have hs0 := newS_ok hm1 hm2
  have HN := Lib.hid hs0
  clear hs0
  go_enter Try.func6, Try.ntmps6
  go_wp2_with fail
  refine (small_any _).mono ?_
  rintro e w1 ⟨rfl, hb⟩
  have HB := Lib.hid hb
  clear hb
  go_wp2_with fail
  refine (new_any m hm1 hm2 _).mono ?_
  rintro e w2 ⟨rfl, hP, hb⟩
  have HB2 := Lib.hid (HB.out.trans (hb.mono HB.out.size))
  have HP2 := Lib.hid hP
  have hlt2 := hP.lt
  have hWs : W.heap.size ≤ w1.heap.size := HB.out.size
  clear hb hP
  generalize w1.heap.size = mb at *
  have hpb : W.heap.size ≤ mb + 1 := by omega
  have hpm : mb < mb + 1 := Nat.lt_succ_self _
  generalize mb + 1 = pb at *
  go_wp2_with fail
  refine (new_any m hm1 hm2 _).mono ?_
  rintro e w3 ⟨rfl, hP, hb⟩
  have hlt3 := hP.lt
  have HM3 : Hid (AMem W w3.heap.size pb mb (w2.heap.size + 1) w2.heap.size (.slice none 0 0) (.slice none 0 0) w3 (newS m) (newS m) [] []) := Lib.hid {
    pb0 := Nat.lt_of_lt_of_le hlt2.1 hb.size
    mb0 := Nat.lt_of_lt_of_le hlt2.2 hb.size
    pc0 := hlt3.1
    mc0 := hlt3.2
    n1 := by omega
    n2 := by omega
    n3 := by omega
    n4 := by omega
    size := Nat.le_refl _
    p := HP2.out.below hb
    q := hP
    f := World.ownsRow_nil _ _ _ _
    s := World.ownsRow_nil _ _ _ _
    apart := Or.inl rfl
    below := HB2.out.trans (hb.mono HB2.out.size)
    W0 := ⟨hpb, hWs, by omega, by omega⟩ }
  have HL3 : Hid (ALog town m 0 (newS m) (newS m) []) := Lib.hid ⟨aside_new m town, HN.out, HN.out, Nat.le_refl _, Nat.le_refl _, rfl⟩
  clear hb hP HP2 hlt3
  have hnn : w2.heap.size + 1 ≠ w2.heap.size := by omega
  generalize w2.heap.size = mc at *
  generalize mc + 1 = pc at *
  generalize w3.heap.size = B0 at *
  clear HB HB2 hlt2 hWs hpb hpm hnn HN
  go_wp2_with fail
  go_loopw [12, 13, 14] (fun fv sv i wr => ∃ (k : Nat) (sp sq : WS) (N : List Int), k ≤ l.length ∧ i = .int .i64 k ∧ AMem W B0 pb mb pc mc fv sv wr sp sq N (secs N.length) ∧ ALog town m k sp sq N) (fun _ _ i _ => l.length - (intOf i).toNat)
  case atStart => exact ⟨0, _, _, [], Nat.zero_le _, rfl, HM3.out, HL3.out⟩
  case round =>
    obtain ⟨k, sp, sq, N, hk, rfl, hM, hL⟩ := hrel
    have HM := Lib.hid hM
    have HL := Lib.hid hL
    have hNl : N.length ≤ k := hL.fl
    have hrk : sp.r ≤ k := hL.r
    have hqr : sq.r = N.length := hL.qr
    have hmp := m_len hL.okp
    have hmq := m_len hL.okq
    have HQR := Lib.hid hqr
    have hqr' : sq.r ≤ k := by omega
    clear hM hL HM3 HL3 hqr
    by_cases hlt : k < l.length
    · obtain ⟨x, hx⟩ : ∃ x, l[k]? = some x := ⟨_, List.getElem?_eq_getElem hlt⟩
      obtain ⟨b, o, c', he, hbl, hrg, hok⟩ := HS.out.at HM.out.below hx
      simp only [Value.slice.injEq, true_and] at he
      obtain ⟨rfl, rfl⟩ := he
      have HOk := Lib.hid hok
      obtain ⟨c0, c1, c2, c3, c4, c5, c6, c7⟩ := range8 hrg
      have HX := Lib.hid hx
      clear hx hrg hok
      obtain ⟨O, hO⟩ : ∃ O, O = (Obj.cells #[.int .i64 x.act, .int .i64 x.town, .int .i64 x.level, .int .i64 x.hour, .int .i64 x.call.town, .int .i64 x.call.level, .int .i64 x.call.number, .int .i64 x.call.warden] 31) := ⟨_, rfl⟩
      have HM5 := Lib.hid (HM.out.below' ((Below.refl wr.heap.size wr).alloc (Nat.le_refl _) O))
      have HX5 := Lib.hid (heap_alloc_new wr O)
      have hpo5 : B0 ≤ wr.heap.size := HM.out.size
      rw [hO] at HM5 HX5
      clear hO O
      have hwl : wr.heap.size < (wr.alloc (.cells #[.int .i64 x.act, .int .i64 x.town, .int .i64 x.level, .int .i64 x.hour, .int .i64 x.call.town, .int .i64 x.call.level, .int .i64 x.call.number, .int .i64 x.call.warden] 31)).heap.size := by simp
      by_cases h0 : bits .and .i64 x.act 3 = 0
      · have h1 : (bits .and .i64 x.act 3 == 1) = false := by rw [h0]; rfl
        have H1 := Lib.hid h1
        have H0 := Lib.hid h0
        clear h1
        go_wp2_with fail
        clear h0 c0 c1 c2 c3 c4 c5 c6 c7
        generalize wr.alloc (.cells #[.int .i64 x.act, .int .i64 x.town, .int .i64 x.level, .int .i64 x.hour, .int .i64 x.call.town, .int .i64 x.call.level, .int .i64 x.call.number, .int .i64 x.call.warden] 31) = w5 at *
        generalize wr.heap.size = po at *
        refine (raise_any pb mb _ x.town x.level x.hour _ HM5.out.p (by omega) (by omega)).mono ?_
        rintro e w6 ⟨rfl, hP, hv⟩
        have HM6 := Lib.hid (HM5.out.moveP hP hv)
        have HX6 := Lib.hid ((hv.block po hwl (by have := HM5.out.pb0; omega) (by have := HM5.out.mb0; omega)).trans HX5.out)
        rw [raise_fst]
        clear hP hv HM5 HX5 hwl
        obtain ⟨x0, x1, x2, x3, x4, x5, x6, x7⟩ := row8 HX6.out
        by_cases hxt : x.town = town
        · have T1 : (x.town == town) = true := by rw [beq_iff_eq]; exact hxt
          by_cases hok : okRaise x.town x.level x.hour
          · rw [if_pos hok]
            have HXT := Lib.hid hxt
            have HOK := Lib.hid hok
            clear hxt hok
            have g1 : 0 < (sp.r : Int) + 1 := by omega
            have hnew : ∀ i u, [Value.int .i64 ((sp.r : Int) + 1)][i]? = some u → (w6.alloc (.cells #[.int .i64 ((sp.r : Int) + 1)] 3)).cell? ((⟨w6.heap.size, 0, none⟩ : Addr).add i) = some u := fun i u hi => by
              rw [Addr.add_mid, Nat.zero_add, cell_of_row _ _ _ _ _ _ (heap_alloc_new w6 (.cells #[.int .i64 ((sp.r : Int) + 1)] 3)), ← Array.getElem?_toList]
              exact hi
            have HM7 := Lib.hid (HM6.out.below' ((Below.refl w6.heap.size w6).alloc (Nat.le_refl _) (.cells #[.int .i64 ((sp.r : Int) + 1)] 3)))
            have HX7 := Lib.hid ((heap_alloc_old w6 (.cells #[.int .i64 ((sp.r : Int) + 1)] 3) (blk_lt HX6.out)).trans HX6.out)
            go_wp2_with (at_builtin; refine Hid.out ?_)
            refine Lib.hid ?_
            refine wpList_append_own_at _ rfl _ _ 38 rfl B0 3 iI (.int .i64 0) 1 8 undIs hiI hzI hsI hbI rfl (by decide) _ N.length _ rfl HM7.out.f ⟨w6.heap.size, 0, none⟩ 1 1 [.int .i64 ((sp.r : Int) + 1)] rfl rfl hnew (by intro u hu; rw [List.mem_singleton] at hu; subst hu; rfl) (by unfold maxLen; omega) (by omega) HM7.out.size ?_
            intro v' w7 hown7 hgr7 _ hloc7
            have HM8 : Hid (AMem W B0 pb mb pc mc v' u13 w7 (raiseS sp x.town x.level x.hour).2 sq (N ++ [(sp.r : Int) + 1]) (secs N.length)) := Lib.hid (HM7.out.appF (L := N ++ [(sp.r : Int) + 1]) (by
              have h := hown7
              unfold intV at h ⊢
              rw [List.length_append, List.map_append]
              exact h) hgr7 hloc7)
            have HX8 := Lib.hid ((hgr7.block po (blk_lt HX7.out) (fun e => own_ne HM7.out.f HX7.out (by decide) e.symm)).trans HX7.out)
            clear hown7 hgr7 hloc7 hnew HM6 HX6 HM7 HX7 x0 x1 x2 x3 x4 x5 x6 x7
            obtain ⟨x0, x1, x2, x3, x4, x5, x6, x7⟩ := row8 HX8.out
            go_wp2_with fail
            refine (raise_any pc mc _ x.town x.level x.hour _ HM8.out.q (by omega) (by omega)).mono ?_
            rintro e w8 ⟨rfl, hP, hv⟩
            have HM9 := Lib.hid (HM8.out.moveQ hP hv)
            have HX9 := Lib.hid ((hv.block po (blk_lt HX8.out) (by have := HM8.out.pc0; omega) (by have := HM8.out.mc0; omega)).trans HX8.out)
            rw [raise_fst, if_pos HOK.out]
            clear hP hv HM8 HX8 x0 x1 x2 x3 x4 x5 x6 x7
            have hnew : ∀ i u, [Value.int .i64 ((sq.r : Int) + 1)][i]? = some u → (w8.alloc (.cells #[.int .i64 ((sq.r : Int) + 1)] 3)).cell? ((⟨w8.heap.size, 0, none⟩ : Addr).add i) = some u := fun i u hi => by
              rw [Addr.add_mid, Nat.zero_add, cell_of_row _ _ _ _ _ _ (heap_alloc_new w8 (.cells #[.int .i64 ((sq.r : Int) + 1)] 3)), ← Array.getElem?_toList]
              exact hi
            have HM10 := Lib.hid (HM9.out.below' ((Below.refl w8.heap.size w8).alloc (Nat.le_refl _) (.cells #[.int .i64 ((sq.r : Int) + 1)] 3)))
            have HX10 := Lib.hid ((heap_alloc_old w8 (.cells #[.int .i64 ((sq.r : Int) + 1)] 3) (blk_lt HX9.out)).trans HX9.out)
            have hsl := secs_len N.length
            have HSL := Lib.hid hsl
            clear hsl
            go_wp2_with (at_builtin; refine Hid.out ?_)
            refine Lib.hid ?_
            refine wpList_append_own_at _ rfl _ _ 38 rfl B0 3 iI (.int .i64 0) 1 8 undIs hiI hzI hsI hbI rfl (by decide) _ (secs N.length).length _ rfl HM10.out.s ⟨w8.heap.size, 0, none⟩ 1 1 [.int .i64 ((sq.r : Int) + 1)] rfl rfl hnew (by intro u hu; rw [List.mem_singleton] at hu; subst hu; rfl) (by rw [HSL.out]; unfold maxLen; omega) (by rw [HSL.out]; omega) HM10.out.size ?_
            intro v9 w9 hown9 hgr9 _ hloc9
            have HM11 : Hid (AMem W B0 pb mb pc mc v' v9 w9 (raiseS sp x.town x.level x.hour).2 (raiseS sq x.town x.level x.hour).2 (N ++ [(sp.r : Int) + 1]) (secs (N ++ [(sp.r : Int) + 1]).length)) := Lib.hid (HM10.out.appS (L := secs (N ++ [(sp.r : Int) + 1]).length) (by
              have h := hown9
              rw [List.length_append, List.length_singleton, secs_succ, List.length_append, ← HQR.out]
              rw [← HQR.out] at h
              unfold intV at h ⊢
              rw [List.map_append]
              exact h) hgr9 hloc9)
            have HX11 := Lib.hid ((hgr9.block po (blk_lt HX10.out) (fun e => own_ne HM10.out.s HX10.out (by decide) e.symm)).trans HX10.out)
            clear hown9 hgr9 hloc9 hnew HM9 HX9 HM10 HX10
            obtain ⟨x0, x1, x2, x3, x4, x5, x6, x7⟩ := row8 HX11.out
            have h1 := H1.out
            go_wp2_with fail
            go_roundw
            case rel => exact ⟨k + 1, _, _, N ++ [(sp.r : Int) + 1], by omega, by go_num, HM11.out, by have h := HL.out.raise_in (l := x.level) (hr := x.hour) (HXT.out ▸ HOK.out); rw [← HXT.out] at h ⊢; exact h⟩
            case measure => simp [intOf]; omega
          · rw [if_neg hok]
            have HLn := Lib.hid (HL.out.raise_out (t := x.town) (l := x.level) (hr := x.hour) (fun e => hok e.2))
            have h1 := H1.out
            clear hxt hok
            go_wp2_with fail
            go_roundw
            case rel => exact ⟨k + 1, _, _, N, by omega, by go_num, HM6.out, HLn.out⟩
            case measure => simp [intOf]; omega
        · have T1 : (x.town == town) = false := by rw [beq_eq_false_iff_ne]; exact hxt
          have HLn := Lib.hid (HL.out.raise_out (t := x.town) (l := x.level) (hr := x.hour) (fun e => hxt e.1))
          have h1 := H1.out
          clear hxt
          go_wp2_with fail
          go_roundw
          case rel => exact ⟨k + 1, _, _, N, by omega, by go_num, HM6.out, HLn.out⟩
          case measure => simp [intOf]; omega
      · by_cases h1 : bits .and .i64 x.act 3 = 1
        · have h0' : (bits .and .i64 x.act 3 == 0) = false := by rw [beq_eq_false_iff_ne]; exact h0
          obtain ⟨aF, cF, hFe, _⟩ := IArg.of_owns HM.out.f
          obtain ⟨aS, cS, hSe, _⟩ := IArg.of_owns HM.out.s
          rw [secs_len] at hSe
          subst hFe hSe
          have h1' : (bits .and .i64 x.act 3 == 1) = true := by rw [beq_iff_eq]; exact h1
          clear h0 h1
          go_wp2_with fail
          clear h0' h1' c0 c1 c2 c3 c4 c5 c6 c7
          generalize wr.alloc (.cells #[.int .i64 x.act, .int .i64 x.town, .int .i64 x.level, .int .i64 x.hour, .int .i64 x.call.town, .int .i64 x.call.level, .int .i64 x.call.number, .int .i64 x.call.warden] 31) = w5 at *
          generalize wr.heap.size = po at *
          refine (ack_any pb mb _ x.call _ HM5.out.p HOk.out.2.2.2.2 (by omega)).mono ?_
          rintro e w6 ⟨rfl, hP, hv⟩
          have HM6 := Lib.hid (HM5.out.moveP hP hv)
          have HX6 := Lib.hid ((hv.block po hwl (by have := HM5.out.pb0; omega) (by have := HM5.out.mb0; omega)).trans HX5.out)
          rw [ack_fst]
          have hpo6 : po < w6.heap.size := blk_lt HX6.out
          clear hP hv HM5 HX5 hwl
          obtain ⟨x0, x1, x2, x3, x4, x5, x6, x7⟩ := row8 HX6.out
          by_cases hxt : x.call.town = town
          · have T1 : (x.call.town != town) = false := by simp [hxt]
            have HXT := Lib.hid hxt
            clear hxt
            have hB7 := (Below.refl w6.heap.size w6).alloc (Nat.le_refl _) (.cells #[.int .i64 x.call.town, .int .i64 x.call.level, .int .i64 (-1), .int .i64 x.call.warden] 29)
            have HM7 := Lib.hid (HM6.out.below' hB7)
            have HX7 := Lib.hid ((hB7.block po hpo6).trans HX6.out)
            have HC7 := Lib.hid (heap_alloc_new w6 (.cells #[.int .i64 x.call.town, .int .i64 x.call.level, .int .i64 (-1), .int .i64 x.call.warden] 29))
            have hcb : B0 ≤ w6.heap.size := HM6.out.size
            clear hB7
            go_wp2_with fail
            clear x0 x1 x2 x3 x4 x5 x6 x7 T1
            generalize w6.alloc (.cells #[.int .i64 x.call.town, .int .i64 x.call.level, .int .i64 (-1), .int .i64 x.call.warden] 29) = w7 at *
            generalize w6.heap.size = cb at *
            go_loopw [19] (fun i wq => ∃ j : Nat, j ≤ N.length ∧ i = .int .i64 j ∧ AMem W B0 pb mb pc mc (.slice aF N.length cF) (.slice aS N.length cS) wq (ackS sp x.call).2 sq N (secs N.length) ∧ wq.heap[po]? = some (.cells #[.int .i64 x.act, .int .i64 x.town, .int .i64 x.level, .int .i64 x.hour, .int .i64 x.call.town, .int .i64 x.call.level, .int .i64 x.call.number, .int .i64 x.call.warden] 31 (0, 0))
              ∧ wq.heap[cb]? = some (.cells #[.int .i64 x.call.town, .int .i64 x.call.level, .int .i64 (trN (N.take j) 0 x.call.number), .int .i64 x.call.warden] 29 (0, 0))) (fun i _ => N.length - (intOf i).toNat)
            case atStart => exact ⟨0, Nat.zero_le _, rfl, HM7.out, HX7.out, HC7.out⟩
            case round =>
              obtain ⟨j, hj, rfl, hM, hX, hC⟩ := hrel
              have HMj := Lib.hid hM
              have HXj := Lib.hid hX
              have HCj := Lib.hid hC
              obtain ⟨x0, x1, x2, x3, x4, x5, x6, x7⟩ := row8 hX
              clear hM hX HM7 HX7 HC7 HM6 HX6
              by_cases hjl : j < N.length
              · obtain ⟨y, hy⟩ : ∃ y, N[j]? = some y := ⟨_, List.getElem?_eq_getElem hjl⟩
                obtain ⟨a8, c8, he, hel⟩ := IArg.of_owns HMj.out.f
                obtain ⟨gF, ha, hgl, hF⟩ := hel j y hy
                simp only [Value.slice.injEq, true_and] at he
                obtain ⟨rfl, rfl⟩ := he
                subst ha
                obtain ⟨a8, c8, he, hel⟩ := IArg.of_owns HMj.out.s
                obtain ⟨gS, ha, hgl2, hG⟩ := hel j ((j : Int) + 1) (secs_get hjl)
                rw [secs_len] at he
                simp only [Value.slice.injEq, true_and] at he
                obtain ⟨rfl, rfl⟩ := he
                subst ha
                have hri : (N.take (j + 1)).Pairwise (· < ·) := HL.out.aside.rising.sublist (List.take_sublist _ _)
                have htk : N.take (j + 1) = N.take j ++ [y] := by rw [List.take_add_one, hy]; rfl
                rw [htk] at hri
                have htr := trN_snoc (N.take j) y x.call.number 0 hri
                rw [← htk, List.length_take, Nat.min_eq_left hj] at htr
                have HTR := Lib.hid htr
                have hfr : wr.frozen? ⟨cb, 2, none⟩ = false := frozen_of_row _ _ _ _ _ hC
                have y2 := (row4 hC).2.2.1
                clear hri htk htr hy hel hC
                by_cases hyn : y = x.call.number
                · have T1 : (y == x.call.number) = true := by rw [beq_iff_eq]; exact hyn
                  have HTr : Hid (trN (N.take (j + 1)) 0 x.call.number = (j : Int) + 1) := Lib.hid (by rw [HTR.out, if_pos hyn]; omega)
                  clear hyn HTR
                  go_wp2_with fail
                  go_quiet (fail)
                  go_wp2_with fail
                  have HC9 : Hid (((wr.drewN nq).setCell ⟨cb, 2, none⟩ (.int .i64 ((j : Int) + 1))).heap[cb]? = some (.cells #[.int .i64 x.call.town, .int .i64 x.call.level, .int .i64 ((j : Int) + 1), .int .i64 x.call.warden] 29 (0, 0))) := Lib.hid ((heap_setCell_same (wr.drewN nq) _ _ _ _ _ HCj.out).trans rfl)
                  have HX9 : Hid (((wr.drewN nq).setCell ⟨cb, 2, none⟩ (.int .i64 ((j : Int) + 1))).heap[po]? = _) := Lib.hid ((heap_setCell_other _ _ _ _ (Nat.ne_of_lt hpo6)).trans HXj.out)
                  have HM9 := Lib.hid (HMj.out.grown (grown_set (w := wr) (cb := cb) (j := 2) (v := .int .i64 ((j : Int) + 1)) nq) (fun g e => by have := Option.some.inj e; omega) (Or.inr (own_ne HMj.out.f HCj.out (by decide))) (Or.inr (own_ne HMj.out.s HCj.out (by decide))))
                  go_roundw
                  case rel => exact ⟨j + 1, by omega, by go_num, HM9.out, HX9.out, by rw [HTr.out]; exact HC9.out⟩
                  case measure => simp [intOf]; omega
                · have T1 : (y == x.call.number) = false := by rw [beq_eq_false_iff_ne]; exact hyn
                  have HTr : Hid (trN (N.take (j + 1)) 0 x.call.number = trN (N.take j) 0 x.call.number) := Lib.hid (by rw [HTR.out, if_neg hyn])
                  clear hyn HTR
                  go_wp2_with fail
                  go_quiet (fail)
                  go_wp2_with fail
                  have HM9 := Lib.hid (HMj.out.below' (below_drewN (n := nq) (Below.refl wr.heap.size wr)))
                  go_roundw
                  case rel => exact ⟨j + 1, by omega, by go_num, HM9.out, HXj.out, by rw [HTr.out]; exact HCj.out⟩
                  case measure => simp [intOf]; omega
              · obtain rfl : j = N.length := by omega
                rw [List.take_length] at HCj
                obtain ⟨y0, y1, y2, y3⟩ := row4 HCj.out
                have hbd := trN_bd N x.call.number 0
                have hco : COk ⟨x.call.town, x.call.level, trN N 0 x.call.number, x.call.warden⟩ := by
                  have := HOk.out.2.2.2.2
                  unfold COk I64 at this ⊢
                  simp only
                  omega
                have HCO := Lib.hid hco
                have HAw := Lib.hid (aside_awaits HL.out.aside HXT.out)
                have HLn := Lib.hid (HL.out.ack_in HXT.out)
                clear hco
                go_wp2_with fail
                refine (ack_any pc mc _ ⟨x.call.town, x.call.level, trN N 0 x.call.number, x.call.warden⟩ _ HMj.out.q HCO.out (by omega)).mono ?_
                rintro e w9 ⟨rfl, hP, hv⟩
                have HM9 := Lib.hid (HMj.out.moveQ hP hv)
                rw [ack_fst, HAw.out]
                clear hP hv
                have tb : (awaitsS sp x.call != awaitsS sp x.call) = false := by simp
                go_wp2_with fail
                go_roundw
                case rel => exact ⟨k + 1, _, _, N, by omega, by go_num, HM9.out, HLn.out⟩
                case measure => simp [intOf]; omega
          · have T1 : (x.call.town != town) = true := by rw [bne_iff_ne]; exact hxt
            have HLn := Lib.hid (HL.out.ack_out hxt)
            clear hxt
            go_wp2_with fail
            go_roundw
            case rel => exact ⟨k + 1, _, _, N, by omega, by go_num, HM6.out, HLn.out⟩
            case measure => simp [intOf]; omega
        · have h0' : (bits .and .i64 x.act 3 == 0) = false := by rw [beq_eq_false_iff_ne]; exact h0
          have h1' : (bits .and .i64 x.act 3 == 1) = false := by rw [beq_eq_false_iff_ne]; exact h1
          clear h0 h1
          go_wp2_with fail
          go_roundw
          case rel => exact ⟨k + 1, _, _, N, by omega, by go_num, HM5.out, HL.out.more⟩
          case measure => simp [intOf]; omega
    · have hlm := HM.out.below.size
      go_wp2_with fail
      refine (due_any pb mb sp hour _ HM.out.p HL.out.okp hh).mono ?_
      rintro e w6 ⟨v1, rfl, hown, hb⟩
      have HM6 := Lib.hid (HM.out.below' hb)
      obtain ⟨L, hLd⟩ : ∃ L, L = dueS sp hour := ⟨_, rfl⟩
      rw [← hLd] at hown
      have HLd := Lib.hid hLd
      have hLl : L.length ≤ 640 := by rw [hLd]; exact due_len HL.out.okp hour
      obtain ⟨a1, d1, rfl⟩ := (CFrom.of_owns hown).slice
      have HC6 := Lib.hid (CFrom.of_owns hown)
      clear hown hb hLd HM
      go_wp2_with fail
      refine (due_any pc mc sq hour _ HM6.out.q HL.out.okq hh).mono ?_
      rintro e w7 ⟨v2, rfl, hown, hb⟩
      have HM7 := Lib.hid (HM6.out.below' hb)
      obtain ⟨M, hMd⟩ : ∃ M, M = dueS sq hour := ⟨_, rfl⟩
      rw [← hMd] at hown
      have HMd := Lib.hid hMd
      have hMl : M.length ≤ 640 := by rw [hMd]; exact due_len HL.out.okq hour
      obtain ⟨a2, d2, rfl⟩ := (CFrom.of_owns hown).slice
      have HC7 := Lib.hid (HC6.out.below hb)
      have HD7 := Lib.hid (CFrom.of_owns hown)
      have HE := Lib.hid (aside_due HL.out.aside HL.out.okp HL.out.okq hour)
      rw [← HLd.out, ← HMd.out] at HE
      clear hown hb hMd HM6 HC6
      go_wp2_with fail
      have hBw := Lib.hid HM7.out.below
      generalize w6.heap.size = q2 at *
      generalize wr.heap.size = q1 at *
      go_loopw [22, 23] (fun g i wx => ∃ j : Nat, j ≤ L.length ∧ i = .int .i64 j ∧ g = .int .i64 (ofTown L town j : Nat) ∧ CFrom q1 (.slice a1 L.length d1) L wx ∧ CFrom q2 (.slice a2 M.length d2) M wx ∧ Below W.heap.size W wx) (fun _ i _ => L.length - (intOf i).toNat)
      case atStart => exact ⟨0, Nat.zero_le _, rfl, by unfold ofTown; rfl, HC7.out, HD7.out, hBw.out⟩
      case round =>
        obtain ⟨j, hj, rfl, rfl, hC8, hD8, hB8⟩ := hrel
        have HC8 := Lib.hid hC8
        have HD8 := Lib.hid hD8
        have HB8 := Lib.hid hB8
        clear hC8 hD8 hB8 HC7 HD7 hBw HM7
        have hML : (M.length : Int) = (ofTown L town L.length : Int) := by
          have := congrArg List.length HE.out
          simp only [List.length_map] at this
          unfold ofTown
          rw [List.take_length, ← this]
        have HML := Lib.hid hML
        clear hML
        by_cases hjl : j < L.length
        · obtain ⟨y, hy⟩ : ∃ y, L[j]? = some y := ⟨_, List.getElem?_eq_getElem hjl⟩
          obtain ⟨b9, c9, he, _, _, hrg⟩ := HC8.out.at hy
          simp only [Value.slice.injEq, true_and] at he
          obtain ⟨rfl, rfl⟩ := he
          obtain ⟨c0, c1, c2, c3⟩ := range4 hrg
          have hot := ofTown_le L town j
          by_cases hyt : y.town = town
          · have hnx := ofTown_next hy hyt
            have HNx := Lib.hid hnx.1
            obtain ⟨z, hz, hze⟩ : ∃ z, M[ofTown L town j]? = some z ∧ (z.town, z.level, z.warden) = (y.town, y.level, y.warden) := by
              have h1 := congrArg (fun q => q[ofTown L town j]?) HE.out
              simp only [List.getElem?_map, hnx.2, Option.map_some] at h1
              cases hz : M[ofTown L town j]? with
              | none => rw [hz] at h1; cases h1
              | some z => rw [hz] at h1; exact ⟨z, rfl, Option.some.inj h1⟩
            simp only [Prod.mk.injEq] at hze
            have hzl : ofTown L town j < M.length := (List.getElem?_eq_some_iff.1 hz).1
            obtain ⟨b8, c8, he, _, _, hrg⟩ := HD8.out.at hz
            simp only [Value.slice.injEq, true_and] at he
            obtain ⟨rfl, rfl⟩ := he
            obtain ⟨z0, z1, z2, z3⟩ := range4 hrg
            rw [hze.1] at z0
            rw [hze.2.1] at z1
            rw [hze.2.2] at z3
            have T1 : (y.town != town) = false := by simp [hyt]
            have T2 : ¬ ((M.length : Int) ≤ (ofTown L town j : Int)) := by omega
            have T3 : decide ((M.length : Int) ≤ (ofTown L town j : Int)) = false := decide_eq_false T2
            have T4 : decide (M.length ≤ ofTown L town j) = false := decide_eq_false (by omega)
            have T5 : (y.warden != y.warden) = false := by simp
            have T6 : (y.level != y.level) = false := by simp
            clear hy hrg hyt hnx hze hz
            go_wp2_with fail
            go_quiet (fail)
            go_wp2_with fail
            go_roundw
            case rel => exact ⟨j + 1, by omega, by go_num, by rw [HNx.out]; go_num, HC8.out.drewN nq, HD8.out.drewN nq, below_drewN HB8.out⟩
            case measure => simp [intOf]; omega
          · have HNx := Lib.hid (ofTown_skip hy hyt)
            have T1 : (y.town != town) = true := by rw [bne_iff_ne]; exact hyt
            clear hy hrg hyt
            go_wp2_with fail
            go_roundw
            case rel => exact ⟨j + 1, by omega, by go_num, by rw [HNx.out], HC8.out, HD8.out, HB8.out⟩
            case measure => simp [intOf]; omega
        · obtain rfl : j = L.length := by omega
          have T1 : (((ofTown L town L.length : Nat) : Int) == (M.length : Int)) = true := by rw [beq_iff_eq]; exact HML.out.symm
          go_wp2_with fail
          go_ret
          exact ⟨rfl, HB8.out⟩
end Go.Proofs.Ythijckdablkofaa
